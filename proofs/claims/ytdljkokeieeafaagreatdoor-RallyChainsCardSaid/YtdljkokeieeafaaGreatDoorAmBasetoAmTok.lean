/-
  Several texts, one behind the other.
-/
import Derived.Orders
import Derived.Tactics2
import Derived.Laws.AppendOwn
import Derived.Laws.OwnMore
import Derived.Laws.Rows
import Derived.Below
import Derived.Laws.BytesArg
import Derived.Laws.Externs
import Derived.Laws.CopyRow
import Derived.RangeFuncIn
import Derived.TacticsIn
import Derived.OrdersIn
import Derived.LoopNIn
import Derived.RangeFuncLeaves
import Derived.RangeFuncNested
import Derived.OwnWalkIn
import Derived.Laws.MakeOwn
import Derived.Laws.StructEq
import Derived.Laws.Pointers
import Derived.WalkSpells
import Derived.Laws.Tables
import Derived.Great.BuildSlice
set_option linter.unusedSimpArgs false
set_option linter.unusedVariables false
/-
 Immutable data,how a value reads as data in a world,expressions over data,symbolic values and states of a frame,and what it means that a frame and a world are as such a state says.
-/
namespace Go.Am

structure TL (a b:World):Prop where
 tape:a.tape=b.tape
 dr:b.drawn≤a.drawn

theorem TL.refl (w:World):TL w w:=⟨rfl,Nat.le_refl _⟩
theorem TL.trans {a b c:World}(h:TL a b)(k:TL b c):TL a c:=⟨h.tape.trans k.tape,Nat.le_trans k.dr h.dr⟩

structure Blw (B:Nat)(a w:World):Prop extends RowKit.Below B a w where
 dr:a.drawn≤w.drawn

theorem Blw.refl (B:Nat)(a:World):Blw B a a:=⟨⟨rfl,rfl,rfl,Nat.le_refl _,fun _ _=>rfl⟩,Nat.le_refl _⟩
theorem Blw.tl {B:Nat}{a w:World}(h:Blw B a w):TL w a:=⟨h.tape,h.dr⟩

/-! ## Data -/

inductive D where
 | v (x:Value)
 | agg (cs:List D)
 | lst (es:List D)
 | ptr (cs:List D)
 | tup (ds:List D)
 | ifc (t:TypeId) (d:D)
 | fn (f:FuncId) (first caps:List D)
 | loc (i off:Nat)
 | sl (i off len:Nat)
 | snil
 | blk (e:TypeId) (sz:Nat) (cs:List D)
 | mp (i:Nat)
 | mblk (kvs:List D)
 | itb (m n:Nat) (seen:List Nat)
 | lpb (stop:Bool)
 | sit (s:ByteArray) (pos:Nat)
 | glb (g:Nat) (t:TypeId) (vs:List Value)
 | ylb (i:Nat) (rec:Loop×Code) (sl:List Nat) (caps:List D)
 | yl (l:Nat) (rec:Loop) (sl:List Nat) (caps:List D)
 | st (bs:List D)
 deriving Inhabited

abbrev D.int (n:Int):D:=.v (.int .i64 n)
abbrev D.bool (b:Bool):D:=.v (.bool b)

def D.cells:D→List D
 | .agg cs=>cs
 | d=>[d]

def D.one:D→Bool
 | .agg _ | .tup _ | .blk _ _ _ | .st _ | .mblk _ | .itb _ _ _ | .lpb _ | .sit _ _ | .glb _ _ _=>false
 | _=>true

def plain:Value→Bool
 | .bool _ | .int _ _ | .float _ _ | .complex _ _ _ | .string _ | .pointer none | .map none | .chan none | .nilFunc | .nilIface=>true
 | .func _ f c=>f.isEmpty&&c.isEmpty
 | _=>false

theorem plain_one {x:Value}(h:plain x=true):x.oneCell'=true:=by
 cases x <;> simp[plain,Value.oneCell'] at *

structure Sets where
 mem:Nat→Nat→Prop
 loc:Nat→Nat
 n:Nat
 cap:Nat→Nat
 hold:Nat→Option Loop:=fun _=>none
 lrec:Nat→Loop×Code:=fun _=>default

instance:CoeFun Sets (fun _=>Nat→Nat→Prop):=⟨Sets.mem⟩

structure Sets.Le (S S':Sets):Prop where
 mem:∀b o,S b o→S' b o
 n:S.n≤S'.n
 loc:∀i,i<S.n→S'.loc i=S.loc i
 cap:∀i,i<S.n→S'.cap i=S.cap i
 hold:S'.hold=S.hold
 lrec:∀i,i<S.n→S'.lrec i=S.lrec i

instance:LE Sets:=⟨Sets.Le⟩

theorem Sets.le_refl (S:Sets):S≤S:=⟨fun _ _ h=>h,Nat.le_refl _,fun _ _=>rfl,fun _ _=>rfl,rfl,fun _ _=>rfl⟩
theorem Sets.le_trans {S T U:Sets}(h:S≤T)(k:T≤U):S≤U:=
 ⟨fun b o x=>k.mem b o (h.mem b o x),Nat.le_trans h.n k.n,fun i hi=>(k.loc i (Nat.lt_of_lt_of_le hi h.n)).trans (h.loc i hi),fun i hi=>(k.cap i (Nat.lt_of_lt_of_le hi h.n)).trans (h.cap i hi),k.hold.trans h.hold,fun i hi=>(k.lrec i (Nat.lt_of_lt_of_le hi h.n)).trans (h.lrec i hi)⟩

inductive RdD (w:World) (S:Sets):Value→D→Prop
 | v {x:Value} (h:plain x=true):RdD w S x (.v x)
 | agg {vs:Array Value} {ds:List D} (hl:vs.size=ds.length) (ho:∀(i:Nat) (d:D),ds[i]? = some d→d.one=true)
   (h:∀(i:Nat) (v:Value) (d:D),vs[i]? = some v→ds[i]? = some d→RdD w S v d):RdD w S (.agg vs) (.agg ds)
 | nil:RdD w S (.slice none 0 0) (.lst [])
 | emp {a:Addr} {cap:Nat} (hm:cap≤maxLen):RdD w S (.slice (some a) 0 cap) (.lst [])
 | lst {b off len cap size:Nat} {es:List D} {val:Nat→Nat→Value} (hl:len=es.length) (hc:len≤cap) (hm:cap≤maxLen) (hz:∀(i:Nat) (e:D),es[i]? = some e→e.cells.length=size)
   (ho:∀(i:Nat) (e:D) (j:Nat) (d:D),es[i]? = some e→e.cells[j]? = some d→d.one=true)
   (hS:∀(i:Nat) (e:D) (j:Nat) (d:D),es[i]? = some e→e.cells[j]? = some d→S b (off+i*size+j))
   (hw:∀(i:Nat) (e:D) (j:Nat) (d:D),es[i]? = some e→e.cells[j]? = some d→w.cell? ⟨b,off+i*size+j,none⟩=some (val i j))
   (hr:∀(i:Nat) (e:D) (j:Nat) (d:D),es[i]? = some e→e.cells[j]? = some d→RdD w S (val i j) d):RdD w S (.slice (some ⟨b,off,none⟩) len cap) (.lst es)
 | ptr {b off:Nat} {cs:List D} {val:Nat→Value} (ho:∀(j:Nat) (d:D),cs[j]? = some d→d.one=true) (hS:∀(j:Nat) (d:D),cs[j]? = some d→S b (off+j))
   (hw:∀(j:Nat) (d:D),cs[j]? = some d→w.cell? ⟨b,off+j,none⟩=some (val j))
   (hr:∀(j:Nat) (d:D),cs[j]? = some d→RdD w S (val j) d):RdD w S (.pointer (some ⟨b,off,none⟩)) (.ptr cs)
 | tup {vs:Array Value} {ds:List D} (hl:vs.size=ds.length)
   (h:∀(i:Nat) (v:Value) (d:D),vs[i]? = some v→ds[i]? = some d→RdD w S v d):RdD w S (.tuple vs) (.tup ds)
 | ifc {t:TypeId} {v:Value} {d:D} (h:RdD w S v d):RdD w S (.iface t v) (.ifc t d)
 | fn {f:FuncId} {us vs:Array Value} {ds es:List D} (hl:us.size=ds.length) (hl':vs.size=es.length)
   (h:∀(i:Nat) (v:Value) (d:D),us[i]? = some v→ds[i]? = some d→RdD w S v d) (h':∀(i:Nat) (v:Value) (d:D),vs[i]? = some v→es[i]? = some d→RdD w S v d):RdD w S (.func (.func f) us vs) (.fn f ds es)
 | loc {i off:Nat} (h:i<S.n):RdD w S (.pointer (some ⟨S.loc i,off,none⟩)) (.loc i off)
 | snil:RdD w S (.slice none 0 0) .snil
 | yl {l:Nat} {rec:Loop} {sl:List Nat} {caps:List D} (h:S.hold l=some rec) (hc:∀(i s:Nat) (d:D),sl[i]? = some s→caps[i]? = some d→RdD w S (rec.tmps.getD s undef) d):RdD w S (.func (.yield l) #[] #[]) (.yl l rec sl caps)
 | ylb {i:Nat} {rec:Loop×Code} {sl:List Nat} {caps:List D} (h:i<S.n) (hr:S.lrec i=rec) (hc:∀(j s:Nat) (d:D),sl[j]? = some s→caps[j]? = some d→RdD w S (rec.1.tmps.getD s undef) d):RdD w S (.func (.yield (S.loc i)) #[] #[]) (.ylb i rec sl caps)
 | mp {i:Nat} (h:i<S.n):RdD w S (.map (some (S.loc i))) (.mp i)
 | sl {i off len c:Nat} (h:i<S.n) (hl:len≤c) (hc:c≤maxLen) (h0:off=0→c=S.cap i):RdD w S (.slice (some ⟨S.loc i,off,none⟩) len c) (.sl i off len)

def Keeps (S:Sets)(w w':World):Prop:=∀b o,S b o→w'.cell? ⟨b,o,none⟩=w.cell? ⟨b,o,none⟩

theorem Keeps.refl (S:Sets)(w:World):Keeps S w w:=fun _ _ _=>rfl
theorem Keeps.trans {S:Sets}{a b c:World}(h:Keeps S a b)(k:Keeps S b c):Keeps S a c:=fun x o hS=>(k x o hS).trans (h x o hS)

theorem RdD.keep {w w':World}{S S':Sets}{v:Value}{d:D}(h:RdD w S v d)(hk:Keeps S w w')(hS:S≤S'):RdD w' S' v d:=by
 induction h with
 | v h=>exact .v h
 | agg hl ho _ ih=>exact .agg hl ho ih
 | nil=>exact .nil
 | emp hm=>exact .emp hm
 | lst hl hc hm hz ho hS1 hw _ ih=>exact .lst hl hc hm hz ho (fun i e j d h1 h2=>hS.mem _ _ (hS1 i e j d h1 h2)) (fun i e j d h1 h2=>(hk _ _ (hS1 i e j d h1 h2)).trans (hw i e j d h1 h2)) ih
 | ptr ho hS1 hw _ ih=>exact .ptr ho (fun j d h1=>hS.mem _ _ (hS1 j d h1)) (fun j d h1=>(hk _ _ (hS1 j d h1)).trans (hw j d h1)) ih
 | tup hl _ ih=>exact .tup hl ih
 | ifc _ ih=>exact .ifc ih
 | fn hl hl' _ _ ih ih'=>exact .fn hl hl' ih ih'
 | snil=>exact .snil
 | yl h _ ih=>exact .yl (by rw[hS.hold];exact h) ih
 | ylb h hr _ ih=>rw[←hS.loc _ h];exact .ylb (Nat.lt_of_lt_of_le h hS.n) ((hS.lrec _ h).trans hr) ih
 | mp h=>rw[←hS.loc _ h];exact .mp (Nat.lt_of_lt_of_le h hS.n)
 | loc h=>rw[←hS.loc _ h];exact .loc (Nat.lt_of_lt_of_le h hS.n)
 | sl h hl hc h0=>rw[←hS.loc _ h];exact .sl (Nat.lt_of_lt_of_le h hS.n) hl hc fun e=>(h0 e).trans (hS.cap _ h).symm

mutual
def D.noyl:D→Bool
 | .v _ | .snil | .loc _ _ | .sl _ _ _ | .mp _ | .itb _ _ _ | .lpb _ | .sit _ _ | .glb _ _ _=>true
 | .agg cs | .lst cs | .ptr cs | .tup cs | .blk _ _ cs | .mblk cs | .st cs | .ylb _ _ _ cs=>noyls cs
 | .ifc _ d=>d.noyl
 | .fn _ a b=>noyls a&&noyls b
 | .yl _ _ _ _=>false
def noyls:List D→Bool
 | []=>true
 | d :: r=>d.noyl&&noyls r
end

theorem noyls_get:∀{ds:List D} {i:Nat} {d:D},noyls ds=true→ds[i]? = some d→d.noyl=true
 | [],_,_,_,h=>by simp at h
 | x :: r,0,d,h,hi=>by simp[noyls] at h hi;exact hi ▸ h.1
 | x :: r,i+1,d,h,hi=>by simp[noyls] at h hi;exact noyls_get h.2 hi

theorem noyl_cells {d c:D}{j:Nat}(h:d.noyl=true)(hc:d.cells[j]? = some c):c.noyl=true:=by
 cases d <;> first
 |(simp only[D.cells] at hc;simp only[D.noyl] at h;exact noyls_get h hc)
 |(cases j with
    | zero=>simp only[D.cells,List.getElem?_cons_zero,Option.some.injEq] at hc;subst hc;exact h
    | succ j=>simp[D.cells] at hc)

structure Sets.Like (S S':Sets):Prop where
 mem:∀b o,S b o→S' b o
 n:S.n=S'.n
 loc:∀i,S'.loc i=S.loc i
 cap:∀i,S'.cap i=S.cap i
 lrec:∀i,S'.lrec i=S.lrec i

theorem RdD.like {w:World}{S S':Sets}{v:Value}{d:D}(h:RdD w S v d)(hS:S.Like S')(hd:d.noyl=true):RdD w S' v d:=by
 induction h with
 | v h=>exact .v h
 | agg hl ho _ ih=>exact .agg hl ho fun i v d h1 h2=>ih i v d h1 h2 (noyls_get (by simpa[D.noyl] using hd) h2)
 | nil=>exact .nil
 | emp hm=>exact .emp hm
 | lst hl hc hm hz ho hS1 hw _ ih=>exact .lst hl hc hm hz ho (fun i e j d h1 h2=>hS.mem _ _ (hS1 i e j d h1 h2)) hw fun i e j d h1 h2=>ih i e j d h1 h2 (noyl_cells (noyls_get (by simpa[D.noyl] using hd) h1) h2)
 | ptr ho hS1 hw _ ih=>exact .ptr ho (fun j d h1=>hS.mem _ _ (hS1 j d h1)) hw fun j d h1=>ih j d h1 (noyls_get (by simpa[D.noyl] using hd) h1)
 | tup hl _ ih=>exact .tup hl fun i v d h1 h2=>ih i v d h1 h2 (noyls_get (by simpa[D.noyl] using hd) h2)
 | ifc _ ih=>exact .ifc (ih (by simpa[D.noyl] using hd))
 | fn hl hl' _ _ ih ih'=>
  simp only[D.noyl,Bool.and_eq_true] at hd
  exact .fn hl hl' (fun i v d h1 h2=>ih i v d h1 h2 (noyls_get hd.1 h2)) fun i v d h1 h2=>ih' i v d h1 h2 (noyls_get hd.2 h2)
 | snil=>exact .snil
 | mp h=>rw[←hS.loc _];exact .mp (by rw[←hS.n];exact h)
 | loc h=>rw[←hS.loc _];exact .loc (by rw[←hS.n];exact h)
 | sl h hl hc h0=>rw[←hS.loc _];exact .sl (by rw[←hS.n];exact h) hl hc fun e=>(h0 e).trans (hS.cap _).symm
 | yl _ _ _=>simp[D.noyl] at hd
 | ylb h hr _ ih=>rw[←hS.loc _];exact .ylb (by rw[←hS.n];exact h) ((hS.lrec _).trans hr) fun i s d h1 h2=>ih i s d h1 h2 (noyls_get (by simpa[D.noyl] using hd) h2)

theorem RdD.rehold {w:World}{S S':Sets}{v:Value}{d:D}(h:RdD w S v d)(hS:S.Like S')(hh:∀l rec,S.hold l=some rec→S'.hold l=some rec):RdD w S' v d:=by
 induction h with
 | v h=>exact .v h
 | agg hl ho _ ih=>exact .agg hl ho ih
 | nil=>exact .nil
 | emp hm=>exact .emp hm
 | lst hl hc hm hz ho hS1 hw _ ih=>exact .lst hl hc hm hz ho (fun i e j d h1 h2=>hS.mem _ _ (hS1 i e j d h1 h2)) hw ih
 | ptr ho hS1 hw _ ih=>exact .ptr ho (fun j d h1=>hS.mem _ _ (hS1 j d h1)) hw ih
 | tup hl _ ih=>exact .tup hl ih
 | ifc _ ih=>exact .ifc ih
 | fn hl hl' _ _ ih ih'=>exact .fn hl hl' ih ih'
 | snil=>exact .snil
 | mp h=>rw[←hS.loc _];exact .mp (by rw[←hS.n];exact h)
 | loc h=>rw[←hS.loc _];exact .loc (by rw[←hS.n];exact h)
 | sl h hl hc h0=>rw[←hS.loc _];exact .sl (by rw[←hS.n];exact h) hl hc fun e=>(h0 e).trans (hS.cap _).symm
 | yl h _ ih=>exact .yl (hh _ _ h) ih
 | ylb h hr _ ih=>rw[←hS.loc _];exact .ylb (by rw[←hS.n];exact h) ((hS.lrec _).trans hr) ih

def D.live:D→Bool
 | .blk _ _ _ | .mblk _ | .itb _ _ _ | .lpb _ | .sit _ _ | .glb _ _ _=>true
 | _=>false

def ItOk (S:Sets)(i:Nat)(ob:Option Obj):D→Prop
 | .itb m n seen=>m<S.n∧ob=some (.mapIter (some (S.loc m)) n seen.toArray n)
 | .lpb stop=>ob=some (.loop (bif stop then { (S.lrec i).1 with state:=.done,pending:=some (S.lrec i).2 } else(S.lrec i).1))
 | .sit s pos=>ob=some (.stringIter s pos)
 | .glb g t vs=>S.loc i=g∧ob=some (.cells vs.toArray t (0,0))∧vs.all plain=true
 | _=>False

def D.isIt:D→Bool
 | .itb _ _ _ | .lpb _ | .sit _ _ | .glb _ _ _=>true
 | _=>false

theorem ItOk.to {S S':Sets}{i:Nat}{ob:Option Obj}{z:D}(h:ItOk S i ob z)(hn:S.n≤S'.n)(hl:∀i,i<S.n→S'.loc i=S.loc i)(hr:S'.lrec i=S.lrec i)(hi:i<S.n):ItOk S' i ob z:=by
 cases z <;> first | exact h | skip
 ·exact⟨Nat.lt_of_lt_of_le h.1 hn,by rw[hl _ h.1];exact h.2⟩
 ·simp only[ItOk,hr];exact h
 ·exact⟨(hl _ hi).trans h.1,h.2⟩

theorem D.isIt_live {z:D}(h:z.isIt=true):z.live=true:=by cases z <;> first | rfl | cases h

theorem RdD.one {w:World}{S:Sets}{v:Value}{d:D}(h:RdD w S v d)(hd:d.one=true):v.oneCell'=true:=by
 cases h <;> first | exact plain_one (by assumption) | rfl | simp[D.one] at hd

theorem RdD.v_inv {w:World}{S:Sets}{v x:Value}(h:RdD w S v (.v x)):v=x∧plain x=true:=by
 cases h;exact⟨rfl,by assumption⟩

theorem RdD.agg_inv {w:World}{S:Sets}{v:Value}{ds:List D}(h:RdD w S v (.agg ds)):∃vs:Array Value,v=.agg vs∧vs.size=ds.length∧(∀(i:Nat) (d:D),ds[i]? = some d→d.one=true) ∧
  ∀(i:Nat) (v:Value) (d:D),vs[i]? = some v→ds[i]? = some d→RdD w S v d:=by
 cases h;exact⟨_,rfl,by assumption,by assumption,by assumption⟩

theorem RdD.tup_inv {w:World}{S:Sets}{v:Value}{ds:List D}(h:RdD w S v (.tup ds)):∃vs:Array Value,v=.tuple vs∧vs.size=ds.length ∧
  ∀(i:Nat) (v:Value) (d:D),vs[i]? = some v→ds[i]? = some d→RdD w S v d:=by
 cases h;exact⟨_,rfl,by assumption,by assumption⟩

/-! ## Expressions -/

inductive Kd where
 | int | bool | str | ptr | agg (ks:List Nat) | mp
 deriving DecidableEq,Repr,Inhabited

inductive MOp where
 | newm | fstm | get (kd:Kd) (agg:Bool) | getok (kd:Kd) | put (kd:Kd) | del (kd:Kd) | mlen | ifnil (neg:Bool) | tassert (t:TypeId) | isifc | same | rng | next | entry | entv (kd:Kd) | entm (kd:Kd) | ents | noids | elemA (len size:Nat) | sidx | ssub | srng | snh | snv | bstr | gix (g len sz:Nat) | sib | sbytes | uptr (e:TypeId) (n:Nat) | usd | ustr (e:TypeId) | ustrh (e:TypeId) | asl (n sz:Nat) | bstrh | unifc (t:TypeId) | peq (neg:Bool) | mclv | mclh
 deriving DecidableEq,Repr,Inhabited

inductive E where
 | sym (k:Nat)
 | const (d:D)
 | bin (op:BinOp) (kd:Kd) (a b:E)
 | un (op:UnOp) (a:E)
 | conv (k:IntKind) (a:E)
 | lenL (a:E)
 | lenS (a:E)
 | scal (a:E)
 | cell (i:Nat) (a:E)
 | cells (i n:Nat) (a:E)
 | aggN (n:Nat) (a:E)
 | idx (a i:E)
 | idxN (n:Nat) (a i:E)
 | nil
 | cons (a b:E)
 | one (a:E)
 | app (size bytes:Nat) (a b:E)
 | lcons (a b:E)
 | mkptr (a:E)
 | mkfn (f:FuncId) (a b:E)
 | sub (size:Nat) (a lo hi:E)
 | set (a i:E) (off:Nat) (x:E)
 | ite (c a b:E)
 | guard (c:E) (want:Bool) (a:E)
 | tnil
 | tcons (a b:E)
 | tget (i:Nat) (a:E)
 | rep (bytes:Nat) (n:E) (d:D)
 | deref (a:E)
 | ifc (t:TypeId) (a:E)
 | mm (max:Bool) (a b:E)
 | padd (off:Nat) (a:E)
 | nn (a:E)
 | eaddr (size:Nat) (a i:E)
 | ld (agg:Bool) (n:Nat) (h p:E)
 | sto (n:Nat) (h p y:E)
 | newb (e:TypeId) (sz:Nat) (h y:E)
 | fstid (h:E)
 | newv (e:TypeId) (sz:Nat) (h l:E)
 | fstsl (h l:E)
 | apph (e:TypeId) (sz bytes:Nat) (h x y:E)
 | apps (h x y:E)
 | frzv (agg:Bool) (h x:E)
 | frzh (h x:E)
 | m4 (op:MOp) (a b c d:E)
 deriving Inhabited

def cmpI (op:BinOp)(a b:Int):Option Bool:=
 match op with
 | .eql=>some (a==b)
 | .neq=>some (a != b)
 | .lss=>some (a<b)
 | .leq=>some (a≤b)
 | .gtr=>some (a > b)
 | .geq=>some (a≥b)
 | _=>none

def arI (op:BinOp)(k:IntKind)(a b:Int):Option Int:=
 match op with
 | .add=>some (k.wrap (a+b))
 | .sub=>some (k.wrap (a-b))
 | .mul=>some (k.wrap (a*b))
 | .quo=>if b=0 then none else some (k.wrap (a.tdiv b))
 | .rem=>if b=0 then none else some (a.tmod b)
 | .and=>some (k.wrap (BitVec.ofInt k.bits a &&& BitVec.ofInt k.bits b).toNat)
 | .or=>some (k.wrap (BitVec.ofInt k.bits a ||| BitVec.ofInt k.bits b).toNat)
 | .xor=>some (k.wrap (BitVec.ofInt k.bits a ^^^ BitVec.ofInt k.bits b).toNat)
 | .andNot=>some (k.wrap (BitVec.ofInt k.bits a &&& ~~~(BitVec.ofInt k.bits b)).toNat)
 | _=>none

def shI (op:BinOp)(k:IntKind)(a b:Int):Option Int:=
 if b<0 then none else
 match op with
 | .shl=>some (k.wrap (a*2 ^ (min b.toNat k.bits)))
 | .shr=>some (a.fdiv (2 ^ (min b.toNat k.bits)))
 | _=>none

def D.eqs:List Nat→List D→List D→Option Bool
 | [],[],[]=>some true
 | 0 :: ks,.v (.int k a) :: r,.v (.int k' b) :: s=>if k=k' then(D.eqs ks r s).map (a==b&&·) else none
 | 1 :: ks,.v (.bool a) :: r,.v (.bool b) :: s=>(D.eqs ks r s).map (a==b&&·)
 | 2 :: ks,.v (.string a) :: r,.v (.string b) :: s=>(D.eqs ks r s).map (a.toList==b.toList&&·)
 | _,_,_=>none

def D.bin (op:BinOp)(kd:Kd)(x y:D):Option D:=
 match kd,x,y with
 | .int,.v (.int k a),.v (.int k' b)=>
  match op with
  | .shl | .shr=>(shI op k a b).map fun n=>.v (.int k n)
  | _=>if k=k' then(match cmpI op a b with | some r=>some (.v (.bool r)) | none=>(arI op k a b).map fun n=>.v (.int k n)) else none
 | .bool,.v (.bool a),.v (.bool b)=>(match op with | .eql=>some (.v (.bool (a==b))) | .neq=>some (.v (.bool (!(a==b)))) | _=>none)
 | .str,.v (.string a),.v (.string b)=>
  (match op with
   | .add=>if((a.size+b.size:Nat):Int) > IntKind.i64.max then none else some (.v (.string (a++b)))
   | .eql=>some (.v (.bool (a.toList==b.toList)))
   | .neq=>some (.v (.bool (!(a.toList==b.toList))))
   | .lss=>some (.v (.bool (Op.bytesLess a.toList b.toList)))
   | .leq=>some (.v (.bool (Op.bytesLess a.toList b.toList||a.toList==b.toList)))
   | .gtr=>some (.v (.bool (!(Op.bytesLess a.toList b.toList||a.toList==b.toList))))
   | .geq=>some (.v (.bool (!(Op.bytesLess a.toList b.toList))))
   | _=>none)
 | .ptr,.v (.pointer none),.v (.pointer none)=>(match op with | .eql=>some (.v (.bool true)) | .neq=>some (.v (.bool false)) | _=>none)
 | .ptr,.loc _ _,.v (.pointer none) | .ptr,.v (.pointer none),.loc _ _=>(match op with | .eql=>some (.v (.bool false)) | .neq=>some (.v (.bool true)) | _=>none)
 | .ptr,.ptr _,.v (.pointer none) | .ptr,.v (.pointer none),.ptr _=>(match op with | .eql=>some (.v (.bool false)) | .neq=>some (.v (.bool true)) | _=>none)
 | .mp,.mp _,.v (.map none)=>(match op with | .eql=>some (.v (.bool false)) | .neq=>some (.v (.bool true)) | _=>none)
 | .mp,.v (.map none),.v (.map none)=>(match op with | .eql=>some (.v (.bool true)) | .neq=>some (.v (.bool false)) | _=>none)
 | .agg ks,.agg xs,.agg ys=>(match op with | .eql=>(D.eqs ks xs ys).map fun b=>.v (.bool b) | .neq=>(D.eqs ks xs ys).map fun b=>.v (.bool (!b)) | _=>none)
 | _,_,_=>none

def D.un (op:UnOp)(x:D):Option D:=
 match op,x with
 | .not,.v (.bool b)=>some (.v (.bool (!b)))
 | .neg,.v (.int k n)=>some (.v (.int k (k.wrap (0-n))))
 | _,_=>none

def D.conv (k:IntKind)(x:D):Option D:=
 match x with
 | .v (.int _ n)=>some (.v (.int k (k.wrap n)))
 | _=>none

def D.lenL (x:D):Option D:=
 match x with
 | .lst es=>some (.v (.int .i64 es.length))
 | .sl _ _ n=>some (.v (.int .i64 n))
 | .snil=>some (.v (.int .i64 0))
 | _=>none

def D.lenS (x:D):Option D:=
 match x with
 | .v (.string s)=>some (.v (.int .i64 s.size))
 | _=>none

def D.scal (x:D):Option D:=if x.one=true then some x else none

def D.cell (i:Nat)(x:D):Option D:=x.cells[i]?

def D.part (i n:Nat)(x:D):Option D:=
 match x with
 | .agg cs=>if i+n≤cs.length then some (.agg ((cs.drop i).take n)) else none
 | _=>none

def D.aggN (n:Nat)(x:D):Option D:=
 match x with
 | .agg cs=>if cs.length=n then some x else none
 | _=>none

def D.idx (x i:D):Option D:=
 match x,i with
 | .lst es,.v (.int _ n)=>if 0≤n then es[n.toNat]? else none
 | _,_=>none

def D.idxN (n:Nat)(x i:D):Option D:=(D.idx x i).bind fun e=>if e.cells.length=n then some e else none

def D.cons (x y:D):Option D:=
 match x,y with
 | .tup _,_=>none
 | x,.agg cs=>some (.agg (x.cells++cs))
 | _,_=>none

def allCells (size:Nat)(xs:List D):Bool:=xs.all fun e=>e.cells.length==size

theorem allCells_get {size:Nat}{xs:List D}(h:allCells size xs=true){i:Nat}{e:D}(he:xs[i]? = some e):e.cells.length=size:=by
 have:=List.all_eq_true.1 h e (List.mem_of_getElem? he)
 simpa using this

def D.app (size bytes:Nat)(x y:D):Option D:=
 match x,y with
 | .lst xs,.lst ys=>if(xs.length+ys.length)*bytes≤140737488355328∧xs.length+ys.length≤maxLen∧allCells size xs=true∧allCells size ys=true then some (.lst (xs++ys)) else none
 | _,_=>none

def D.lcons (x y:D):Option D:=
 match y with
 | .lst ys=>some (.lst (x :: ys))
 | _=>none

def D.mkptr (x:D):Option D:=
 match x with
 | .agg cs=>some (.ptr cs)
 | _=>none

def D.mkfn (f:FuncId)(x y:D):Option D:=
 match x,y with
 | .tup ds,.tup es=>some (.fn f ds es)
 | _,_=>none

def D.sub (size:Nat)(x lo hi:D):Option D:=
 match x,lo,hi with
 | .lst es,.v (.int _ l),.v (.int _ h)=>if 0≤l∧l≤h∧h≤(es.length:Int)∧allCells size es=true then some (.lst ((es.drop l.toNat).take (h-l).toNat)) else none
 | .sl i off len,.v (.int _ l),.v (.int _ h)=>if 0≤l∧l≤h∧h≤(len:Int)∧0<size then(if l<h∨l=0 then some (.sl i (off+l.toNat*size) (h-l).toNat) else some (.lst [])) else none
 | .snil,.v (.int _ l),.v (.int _ h)=>if l=0∧h=0 then some .snil else none
 | _,_,_=>none

def D.putAt (e:D)(off:Nat)(x:D):Option D:=
 match e with
 | .agg cs=>if off+x.cells.length≤cs.length then some (.agg (cs.take off++x.cells++cs.drop (off+x.cells.length))) else none
 | _=>if off=0∧x.one=true then some x else none

def D.set (a i:D)(off:Nat)(x:D):Option D:=
 match a,i with
 | .lst es,.v (.int _ n)=>if 0≤n then(es[n.toNat]?).bind fun e=>(e.putAt off x).map fun e'=>.lst (es.set n.toNat e') else none
 | _,_=>none

def D.tcons (x y:D):Option D:=
 match y with
 | .tup ds=>some (.tup (x :: ds))
 | _=>none

def D.tget (i:Nat)(x:D):Option D:=
 match x with
 | .tup ds=>ds[i]?
 | _=>none

def D.rep (bytes:Nat)(n:D)(d:D):Option D:=
 match n with
 | .v (.int .i64 k)=>if 0≤k∧k.toNat*bytes≤140737488355328∧k.toNat≤maxLen then some (.lst (List.replicate k.toNat d)) else none
 | _=>none

def D.deref (x:D):Option D:=
 match x with
 | .ptr cs=>some (.agg cs)
 | _=>none

def D.padd (off:Nat)(x:D):Option D:=
 match x with
 | .ptr cs=>some (.ptr (cs.drop off))
 | .loc i o=>some (.loc i (o+off))
 | _=>none

def D.nn (x:D):Option D:=
 match x with
 | .ptr cs=>some (.ptr cs)
 | .loc i o=>some (.loc i o)
 | .fn f ds es=>some (.fn f ds es)
 | _=>none

def D.eaddr (size:Nat)(x i:D):Option D:=
 match x,i with
 | .lst es,.v (.int _ n)=>if 0≤n then(es[n.toNat]?).bind fun e=>if e.cells.length=size then some (.ptr e.cells) else none else none
 | .sl j off len,.v (.int _ n)=>if 0≤n∧n<(len:Int) then some (.loc j (off+n.toNat*size)) else none
 | _,_=>none

def D.elemA (len size:Nat)(x i:D):Option D:=
 match i with
 | .v (.int _ n)=>if 0≤n∧n<(len:Int) then D.padd (n.toNat*size) x else none
 | _=>none

def D.cellsAt (h:D)(i:Nat):Option (TypeId×Nat×List D):=
 match h with
 | .st bs=>match bs[i]? with
  | some (.blk e sz cs)=>some (e,sz,cs)
  | _=>none
 | _=>none

def D.glbAt (h:D)(i:Nat):Option (List D):=
 match h with
 | .st bs=>match bs[i]? with
  | some (.glb _ _ vs)=>some (vs.map D.v)
  | _=>none
 | _=>none

def D.cellsG (h:D)(i:Nat):Option (List D):=
 match D.cellsAt h i with
 | some b=>some b.2.2
 | none=>D.glbAt h i

def D.ld (agg:Bool)(n:Nat)(h p:D):Option D:=
 match p with
 | .ptr cs=>if agg then(if n≤cs.length then some (.agg (cs.take n)) else none) else cs[0]?
 | .loc i off=>(D.cellsG h i).bind fun cs=>if agg then(if off+n≤cs.length then some (.agg ((cs.drop off).take n)) else none) else cs[off]?
 | _=>none

def D.sto (n:Nat)(h p y:D):Option D:=
 match p,h with
 | .loc i off,.st bs=>(D.cellsAt h i).bind fun b=>if y.cells.length=n∧off+n≤b.2.2.length∧y.cells.all (·.one)=true then some (.st (bs.set i (.blk b.1 b.2.1 (b.2.2.take off++y.cells++b.2.2.drop (off+n))))) else none
 | _,_=>none

def D.newb (e:TypeId)(sz:Nat)(h y:D):Option D:=
 match h,y with
 | .st bs,.agg cs=>if cs.all (·.one)=true then some (.st (bs++[.blk e sz cs])) else none
 | _,_=>none

def D.fstid (h:D):Option D:=
 match h with
 | .st bs=>some (.loc bs.length 0)
 | _=>none

def cellsL (es:List D):List D:=es.flatMap D.cells

def D.newv (e:TypeId)(sz:Nat)(h l:D):Option D:=
 match h,l with
 | .st bs,.lst es=>if allCells sz es=true∧(cellsL es).all (·.one)=true then some (.st (bs++[.blk e sz (cellsL es)])) else none
 | _,_=>none

def D.fstsl (h l:D):Option D:=
 match h,l with
 | .st bs,.lst es=>some (.sl bs.length 0 es.length)
 | _,_=>none

def chunks (sz:Nat):Nat→List D→List (List D)
 | 0,_=>[]
 | n+1,cs=>cs.take sz :: chunks sz n (cs.drop sz)

def D.asL (h:D)(sz:Nat)(y:D):Option (List D):=
 match y with
 | .lst ys=>some ys
 | .snil=>some []
 | .sl j off m=>if m=0 then some [] else(D.cellsAt h j).bind fun b=>if off+m*sz≤b.2.2.length then some ((chunks sz m (b.2.2.drop off)).map .agg) else none
 | _=>none

def D.cnt:D→Option Nat
 | .lst ys=>some ys.length
 | .snil=>some 0
 | .sl _ _ m=>some m
 | _=>none

def D.apph (e:TypeId)(sz bytes:Nat)(h x y:D):Option D:=
 match h,x,D.asL h sz y with
 | .st bs,.snil,some ys=>if ys=[] then some (.st bs) else
   if ys.length*bytes≤140737488355328∧ys.length≤maxLen∧allCells sz ys=true∧(cellsL ys).all (·.one)=true then some (.st (bs++[.blk e sz (cellsL ys)])) else none
 | .st bs,.sl i off n,some ys=>if ys=[] then some (.st bs) else
   (D.cellsAt (.st bs) i).bind fun b=>if off=0∧b.1=e∧b.2.1=sz∧b.2.2.length=n*sz∧(n+ys.length)*bytes≤140737488355328∧n+ys.length≤maxLen∧allCells sz ys=true∧(cellsL ys).all (·.one)=true then
    some (.st (bs.set i (.tup [])++[.blk e sz (b.2.2++cellsL ys)])) else none
 | _,_,_=>none

def D.apps (h x y:D):Option D:=
 match h,x,D.cnt y with
 | .st bs,.snil,some m=>if m=0 then some .snil else some (.sl bs.length 0 m)
 | .st bs,.sl i off n,some m=>if m=0 then some (.sl i off n) else some (.sl bs.length 0 (n+m))
 | _,_,_=>none

def ofChunk (agg:Bool)(c:List D):D:=
 match agg,c with
 | false,[d]=>d
 | _,c=>.agg c

def D.frzv (agg:Bool)(h x:D):Option D:=
 match h,x with
 | _,.snil=>some (.lst [])
 | .st bs,.sl i off n=>(D.cellsAt (.st bs) i).bind fun b=>if off=0∧b.2.2.length=n*b.2.1∧0<b.2.1∧(agg=true∨b.2.1=1)∧b.2.2.all (·.one)=true then some (.lst ((chunks b.2.1 n b.2.2).map (ofChunk agg))) else none
 | _,.sl _ _ _=>none
 | _,x=>some x

def D.frzh (h x:D):Option D:=
 match h,x with
 | .st bs,.sl i _ _=>some (.st (bs.set i (.tup [])))
 | h,_=>some h

def D.mm (max:Bool)(x y:D):Option D:=
 match x,y with
 | .v (.int k a),.v (.int k' b)=>if k=k' then some (.v (.int k (if max then(if b > a then b else a) else(if b<a then b else a)))) else none
 | _,_=>none

def D.keyEq (kd:Kd)(x y:D):Option Bool:=
 match D.bin .eql kd x y with
 | some (.v (.bool b))=>some b
 | _=>none

def D.mfind (kd:Kd)(k:D):List D→Nat→Option (Option (Nat×D))
 | [],_=>some none
 | .tup [k',u] :: r,i=>match D.keyEq kd k k' with
  | some true=>some (some (i,u))
  | some false=>D.mfind kd k r (i+1)
  | none=>none
 | _ :: _,_=>none

def D.keyOk (kd:Kd)(k:D):Bool:=
 match kd,k with
 | .agg ks,.agg cs=>cs.length==ks.length
 | .agg _,_=>false
 | _,_=>true

def D.mlook (kd:Kd)(k:D)(kvs:List D):Option (Option (Nat×D)):=if D.keyOk kd k=true then D.mfind kd k kvs 0 else none

def D.lost:List D→Bool
 | .tup [] :: _=>true
 | _=>false
def D.kept:List D→List D
 | .tup [] :: r=>r
 | l=>l

theorem D.mlook_lost {kd:Kd}{k:D}{l:List D}{r:Option (Nat×D)}(h:D.mlook kd k l=some r):D.lost l=false:=by
 unfold D.mlook at h
 split at h
 ·unfold D.lost
  split
  ·simp[D.mfind] at h
  ·rfl
 ·cases h

theorem D.kept_of {l:List D}(h:D.lost l=false):D.kept l=l:=by
 unfold D.lost at h
 unfold D.kept
 split
 ·cases h
 ·rfl

def D.entries (h m:D):Option (List D):=
 match m with
 | .v (.map none)=>some []
 | .mp i=>(match h with
  | .st bs=>(match bs[i]? with
   | some (.mblk kvs)=>some (D.kept kvs)
   | _=>none)
  | _=>none)
 | _=>none

def D.mput (kd:Kd)(h m k u:D):Option D:=
 match m,h with
 | .mp i,.st bs=>(match bs[i]? with
  | some (.mblk kvs)=>(D.mlook kd k kvs).map fun r=>match r with
   | none=>.st (bs.set i (.mblk (kvs++[.tup [k,u]])))
   | some (j,_)=>.st (bs.set i (.mblk (kvs.set j (.tup [k,u]))))
  | _=>none)
 | _,_=>none

def D.mdel (kd:Kd)(h m k:D):Option D:=
 match m,h with
 | .mp i,.st bs=>(match bs[i]? with
  | some (.mblk kvs)=>(D.mlook kd k (D.kept kvs)).map fun r=>match r with
   | none=>.st (bs.set i (.mblk kvs))
   | some (j,_)=>.st (bs.set i (.mblk (.tup [] :: (D.kept kvs).eraseIdx j)))
  | _=>none)
 | _,_=>none

mutual
def D.noid:D→Bool
 | .v _ | .snil=>true
 | .agg cs | .lst cs | .ptr cs | .tup cs=>noids cs
 | .ifc _ d=>d.noid
 | .fn _ a b=>noids a&&noids b
 | .loc _ _ | .sl _ _ _ | .blk _ _ _ | .mp _ | .mblk _ | .itb _ _ _ | .st _ | .yl _ _ _ _ | .lpb _ | .sit _ _ | .glb _ _ _ | .ylb _ _ _ _=>false
def noids:List D→Bool
 | []=>true
 | d :: r=>d.noid&&noids r
end

theorem noids_get:∀{ds:List D} {i:Nat} {d:D},noids ds=true→ds[i]? = some d→d.noid=true
 | [],_,_,_,h=>by simp at h
 | x :: r,0,d,h,hi=>by simp[noids] at h hi;exact hi ▸ h.1
 | x :: r,i+1,d,h,hi=>by simp[noids] at h hi;exact noids_get h.2 hi

theorem noid_cells {d c:D}{j:Nat}(h:d.noid=true)(hc:d.cells[j]? = some c):c.noid=true:=by
 cases d <;> first
 |(simp only[D.cells] at hc;simp only[D.noid] at h;exact noids_get h hc)
 |(cases j with
    | zero=>simp only[D.cells,List.getElem?_cons_zero,Option.some.injEq] at hc;subst hc;exact h
    | succ j=>simp[D.cells] at hc)

theorem RdD.free {w:World}{S S':Sets}{v:Value}{d:D}(h:RdD w S v d)(hS:∀b o,S b o→S' b o)(hd:d.noid=true):RdD w S' v d:=by
 induction h with
 | v h=>exact .v h
 | agg hl ho _ ih=>exact .agg hl ho fun i v d h1 h2=>ih i v d h1 h2 (noids_get (by simpa[D.noid] using hd) h2)
 | nil=>exact .nil
 | emp hm=>exact .emp hm
 | lst hl hc hm hz ho hS1 hw _ ih=>exact .lst hl hc hm hz ho (fun i e j d h1 h2=>hS _ _ (hS1 i e j d h1 h2)) hw fun i e j d h1 h2=>ih i e j d h1 h2 (noid_cells (noids_get (by simpa[D.noid] using hd) h1) h2)
 | ptr ho hS1 hw _ ih=>exact .ptr ho (fun j d h1=>hS _ _ (hS1 j d h1)) hw fun j d h1=>ih j d h1 (noids_get (by simpa[D.noid] using hd) h1)
 | tup hl _ ih=>exact .tup hl fun i v d h1 h2=>ih i v d h1 h2 (noids_get (by simpa[D.noid] using hd) h2)
 | ifc _ ih=>exact .ifc (ih (by simpa[D.noid] using hd))
 | fn hl hl' _ _ ih ih'=>
  simp only[D.noid,Bool.and_eq_true] at hd
  exact .fn hl hl' (fun i v d h1 h2=>ih i v d h1 h2 (noids_get hd.1 h2)) fun i v d h1 h2=>ih' i v d h1 h2 (noids_get hd.2 h2)
 | snil=>exact .snil
 | mp _ | loc _ | sl _ _ _ _ | yl _ _ _ | ylb _ _ _ _=>simp[D.noid] at hd

theorem RdD.ofNone {w:World}{S S':Sets}{v:Value}{d:D}(h:RdD w S v d)(hS:∀b o,S b o→S' b o)(hn:S.n=0)(hh:∀l,S.hold l=none):RdD w S' v d:=by
 induction h with
 | v h=>exact .v h
 | agg hl ho _ ih=>exact .agg hl ho ih
 | nil=>exact .nil
 | emp hm=>exact .emp hm
 | lst hl hc hm hz ho hS1 hw _ ih=>exact .lst hl hc hm hz ho (fun i e j d h1 h2=>hS _ _ (hS1 i e j d h1 h2)) hw ih
 | ptr ho hS1 hw _ ih=>exact .ptr ho (fun j d h1=>hS _ _ (hS1 j d h1)) hw ih
 | tup hl _ ih=>exact .tup hl ih
 | ifc _ ih=>exact .ifc ih
 | fn hl hl' _ _ ih ih'=>exact .fn hl hl' ih ih'
 | snil=>exact .snil
 | mp h=>omega
 | loc h=>omega
 | sl h _ _ _=>omega
 | yl h _ _=>rw[hh] at h;cases h
 | ylb h _ _ _=>omega

def pairAt (kvs:List D)(j:Nat):Option (D×D):=
 match kvs[j]? with
 | some (.tup [k,u])=>some (k,u)
 | _=>none

def D.mentv (kd:Kd)(h m k z:D):Option D:=
 (D.entries h m).bind fun kvs=>(D.mlook kd k kvs).map fun r=>match r with
  | none=>.tup [z,.int kvs.length]
  | some (j,u)=>.tup [u,.int j]

def D.mentm (kd:Kd)(h m k z:D):Option D:=
 match m,h with
 | .mp i,.st bs=>(match bs[i]? with
  | some (.mblk kvs)=>(D.mlook kd k kvs).map fun r=>match r with
   | none=>.st (bs.set i (.mblk (kvs++[.tup [k,z]])))
   | some (j,u)=>.st (bs.set i (.mblk (kvs.set j (.tup [k,u]))))
  | _=>none)
 | _,_=>none

def D.ments (h m s x:D):Option D:=
 match m,h,s with
 | .mp i,.st bs,.v (.int .i64 n)=>(match bs[i]? with
  | some (.mblk kvs)=>if 0≤n∧D.lost kvs=false then(pairAt kvs n.toNat).map fun e=>.st (bs.set i (.mblk (kvs.set n.toNat (.tup [e.1,x])))) else none
  | _=>none)
 | _,_,_=>none

def D.mrng (h m:D):Option D:=
 match m,h with
 | .mp i,.st bs=>(match bs[i]? with
  | some (.mblk kvs)=>if D.lost kvs=true then none else some (.st (bs++[.itb i kvs.length []]))
  | _=>none)
 | _,_=>none

def D.place (h p:D):Option (List D×Nat×Nat×Nat×List Nat×List D):=
 match h,p with
 | .st bs,.loc i 0=>(match bs[i]? with
  | some (.itb m n seen)=>(match bs[m]? with
   | some (.mblk kvs)=>if kvs.length=n∧D.lost kvs=false then some (bs,i,m,n,seen,kvs) else none
   | _=>none)
  | _=>none)
 | _,_=>none

def leftN (n:Nat)(seen:List Nat):List Nat:=(List.range n).filter fun j=>!seen.contains j

def D.mnext (h p:D):Option D:=
 (D.place h p).map fun q=>.lst (if(leftN q.2.2.2.1 q.2.2.2.2.1).isEmpty=true then[.tup [.tup [.bool false],.st q.1]]
  else(leftN q.2.2.2.1 q.2.2.2.2.1).filterMap fun j=>(pairAt q.2.2.2.2.2 j).map fun e=>.tup [.tup [.bool true,e.1,e.2],.st (q.1.set q.2.1 (.itb q.2.2.1 q.2.2.2.1 (q.2.2.2.2.1++[j])))])

def D.mentry (h p:D):Option D:=
 (D.place h p).bind fun q=>q.2.2.2.2.1.getLast?.bind fun j=>(pairAt q.2.2.2.2.2 j).map fun e=>.tup [e.1,e.2]

def Value.same:Value→Value→Bool
 | .bool a,.bool b=>a==b
 | .int k a,.int k' b=>decide (k=k')&&decide (a=b)
 | .string a,.string b=>decide (a.data=b.data)
 | .pointer none,.pointer none=>true
 | .map none,.map none=>true
 | .nilFunc,.nilFunc=>true
 | .nilIface,.nilIface=>true
 | _,_=>false

theorem Value.same_eq {a b : Value} (h : Value.same a b = true) : a = b := by
  unfold Value.same at h
  split at h <;> first
    | rfl
    | (simp only [beq_iff_eq] at h; rw [h])
    | (simp only [Bool.and_eq_true, decide_eq_true_eq] at h; rw [h.1, h.2])
    | (rename_i x y; simp only [decide_eq_true_eq] at h; cases x; cases y; simp only at h; rw [h])
    | cases h

def Value.sames:List Value→List Value→Bool
 | [],[]=>true
 | a :: r,b :: s=>Value.same a b&&Value.sames r s
 | _,_=>false

theorem Value.sames_eq:∀{a b:List Value},Value.sames a b=true→a=b
 | [],[],_=>rfl
 | a :: r,b :: s,h=>by
  simp only[Value.sames,Bool.and_eq_true] at h
  rw[Value.same_eq h.1,Value.sames_eq h.2]
 | [],_ :: _,h | _ :: _,[],h=>by simp[Value.sames] at h

mutual
def D.same:D→D→Bool
 | .v a,.v b=>Value.same a b
 | .agg a,.agg b=>D.sames a b
 | .lst a,.lst b=>D.sames a b
 | .tup a,.tup b=>D.sames a b
 | .ptr a,.ptr b=>D.sames a b
 | .snil,.snil=>true
 | .loc i o,.loc i' o'=>decide (i=i')&&decide (o=o')
 | .sl i o n,.sl i' o' n'=>decide (i=i')&&decide (o=o')&&decide (n=n')
 | .mp i,.mp i'=>decide (i=i')
 | .ifc t a,.ifc t' b=>decide (t=t')&&D.same a b
 | .fn f a b,.fn g c d=>decide (f=g)&&D.sames a c&&D.sames b d
 | .blk e s a,.blk e' s' b=>decide (e=e')&&decide (s=s')&&D.sames a b
 | .mblk a,.mblk b=>D.sames a b
 | .itb m n s,.itb m' n' s'=>decide (m=m')&&decide (n=n')&&decide (s=s')
 | .lpb b,.lpb c=>b==c
 | .sit s n,.sit s' n'=>decide (s=s')&&decide (n=n')
 | .glb g t a,.glb g' t' b=>decide (g=g')&&decide (t=t')&&Value.sames a b
 | .st a,.st b=>D.sames a b
 | _,_=>false
def D.sames:List D→List D→Bool
 | [],[]=>true
 | a :: r,b :: s=>a.same b&&D.sames r s
 | _,_=>false
end

mutual
theorem D.same_eq:∀{a b:D},D.same a b=true→a=b
 | .v a,b,h=>by cases b <;> first | exact congrArg D.v (Value.same_eq (by simpa[D.same] using h)) | simp[D.same] at h
 | .agg a,b,h=>by cases b <;> first | exact congrArg D.agg (D.sames_eq (by simpa[D.same] using h)) | simp[D.same] at h
 | .lst a,b,h=>by cases b <;> first | exact congrArg D.lst (D.sames_eq (by simpa[D.same] using h)) | simp[D.same] at h
 | .tup a,b,h=>by cases b <;> first | exact congrArg D.tup (D.sames_eq (by simpa[D.same] using h)) | simp[D.same] at h
 | .ptr a,b,h=>by cases b <;> first | exact congrArg D.ptr (D.sames_eq (by simpa[D.same] using h)) | simp[D.same] at h
 | .snil,b,h=>by cases b <;> first | rfl | simp[D.same] at h
 | .loc _ _,b,h=>by cases b <;> first | (simp only[D.same,Bool.and_eq_true,decide_eq_true_eq] at h;rw[h.1,h.2]) | simp[D.same] at h
 | .sl _ _ _,b,h=>by cases b <;> first | (simp only[D.same,Bool.and_eq_true,decide_eq_true_eq] at h;rw[h.1.1,h.1.2,h.2]) | simp[D.same] at h
 | .mp _,b,h=>by cases b <;> first | (simp only[D.same,decide_eq_true_eq] at h;rw[h]) | simp[D.same] at h
 | .ifc t a,b,h=>by cases b <;> first | (simp only[D.same,Bool.and_eq_true,decide_eq_true_eq] at h;rw[h.1,D.same_eq h.2]) | simp[D.same] at h
 | .fn f a b,c,h=>by
  cases c <;> first | (simp only[D.same,Bool.and_eq_true,decide_eq_true_eq] at h;rw[h.1.1,D.sames_eq h.1.2,D.sames_eq h.2]) | simp[D.same] at h
 | .blk _ _ _,b,h=>by cases b <;> first | (simp only[D.same,Bool.and_eq_true,decide_eq_true_eq] at h;rw[h.1.1,h.1.2,D.sames_eq h.2]) | simp[D.same] at h
 | .mblk a,b,h=>by cases b <;> first | exact congrArg D.mblk (D.sames_eq (by simpa[D.same] using h)) | simp[D.same] at h
 | .st a,b,h=>by cases b <;> first | exact congrArg D.st (D.sames_eq (by simpa[D.same] using h)) | simp[D.same] at h
 | .itb _ _ _,b,h=>by cases b <;> first | (simp only[D.same,Bool.and_eq_true,decide_eq_true_eq] at h;rw[h.1.1,h.1.2,h.2]) | simp[D.same] at h
 | .lpb _,b,h=>by cases b <;> first | (simp only[D.same,beq_iff_eq] at h;rw[h]) | simp[D.same] at h
 | .sit _ _,b,h=>by cases b <;> first | (simp only[D.same,Bool.and_eq_true,decide_eq_true_eq] at h;rw[h.1,h.2]) | simp[D.same] at h
 | .glb _ _ _,b,h=>by cases b <;> first | (simp only[D.same,Bool.and_eq_true,decide_eq_true_eq] at h;rw[h.1.1,h.1.2,Value.sames_eq h.2]) | simp[D.same] at h
 | .yl _ _ _ _,_,h | .ylb _ _ _ _,_,h=>by simp[D.same] at h
theorem D.sames_eq:∀{a b:List D},D.sames a b=true→a=b
 | [],[],_=>rfl
 | a :: r,b :: s,h=>by
  simp only[D.sames,Bool.and_eq_true] at h
  rw[D.same_eq h.1,D.sames_eq h.2]
 | [],_ :: _,h | _ :: _,[],h=>by simp[D.sames] at h
end

def D.sidx (x i:D):Option D:=
 match x,i with
 | .v (.string s),.v (.int _ n)=>if 0≤n then(s[n.toNat]?).map fun b=>.v (.int .u8 b.toNat) else none
 | _,_=>none

def D.ssub (x l h:D):Option D:=
 match x,l,h with
 | .v (.string s),.v (.int _ a),.v (.int _ b)=>if 0≤a∧a≤b∧b≤s.size then some (.v (.string (s.extract a.toNat b.toNat))) else none
 | _,_,_=>none

def bytesOf:List D→Option (List Int)
 | []=>some []
 | e :: r=>match e.cells with
  | [.v (.int .u8 n)]=>(bytesOf r).map (n :: ·)
  | _=>none

def D.bstr (x:D):Option D:=
 match x with
 | .lst es=>(bytesOf es).map fun ns=>.v (.string (strOfNums ns))
 | _=>none

def D.srng (h s:D):Option D:=
 match h,s with
 | .st bs,.v (.string s)=>some (.st (bs++[.sit s 0]))
 | _,_=>none

def D.splace (h p:D):Option (List D×Nat×ByteArray×Nat):=
 match h,p with
 | .st bs,.loc i 0=>(match bs[i]? with
  | some (.sit s n)=>some (bs,i,s,n)
  | _=>none)
 | _,_=>none

def D.snh (h p:D):Option D:=(D.splace h p).map fun q=>.st (if q.2.2.2<q.2.2.1.size then q.1.set q.2.1 (.sit q.2.2.1 (q.2.2.2+(Utf8.decode q.2.2.1 q.2.2.2).2)) else q.1)

def D.snv (h p:D):Option D:=(D.splace h p).map fun q=>if q.2.2.2<q.2.2.1.size then .tup [.bool true,.int q.2.2.2,.v (.int .i32 (Utf8.decode q.2.2.1 q.2.2.2).1)] else .tup [.bool false]

def glbFind (g:Nat):List D→Nat→Option Nat
 | [],_=>none
 | .glb g' _ _ :: r,j=>if g'=g then some j else glbFind g r (j+1)
 | _ :: r,j=>glbFind g r (j+1)

def D.gix (g len sz:Nat)(h i:D):Option D:=
 match h,i with
 | .st bs,.v (.int _ n)=>if 0≤n∧n<(len:Int) then(glbFind g bs 0).map fun j=>.loc j (n.toNat*sz) else none
 | _,_=>none

def D.sib (x c:D):Option D:=
 match x,c with
 | .v (.string s),.v (.int .u8 c)=>some (.int (firstIdx s c.toNat.toUInt8))
 | _,_=>none

def bytesD (s:ByteArray):List D:=s.data.toList.map fun b=>.v (.int .u8 b.toNat)

def D.sbytes (x:D):Option D:=
 match x with
 | .v (.string s)=>if s.size≤maxLen then some (.lst (bytesD s)) else none
 | _=>none

def D.uptr (e:TypeId)(n:Nat)(h p:D):Option D:=
 match p with
 | .v (.pointer none)=>some p
 | .loc i 0=>(D.cellsAt h i).bind fun b=>if b.1=e∧n≤b.2.2.length then some p else none
 | _=>none

def D.mclv (h x:D):Option D:=
 match h,x with
 | .st bs,.ifc t (.mp i)=>(match bs[i]? with
  | some (.mblk _)=>some (.ifc t (.mp bs.length))
  | _=>none)
 | _,_=>none

def D.mclh (h x:D):Option D:=
 match h,x with
 | .st bs,.ifc _ (.mp i)=>(match bs[i]? with
  | some (.mblk kvs)=>some (.st (bs++[.mblk kvs]))
  | _=>none)
 | _,_=>none

def D.usd (x:D):Option D:=
 match x with
 | .snil=>some (.v (.pointer none))
 | .sl i off n=>if 0<n then some (.loc i off) else none
 | _=>none

def D.ustr (e:TypeId)(h p n:D):Option D:=
 match p,n with
 | .v (.pointer none),.v (.int .i64 0)=>some (.v (.string .empty))
 | .loc i 0,.v (.int .i64 n)=>(D.cellsAt h i).bind fun b=>if 0<n∧n.toNat≤b.2.2.length∧b.1=e∧n.toNat≤maxLen then(bytesOf (b.2.2.take n.toNat)).bind fun ns=>if ns.all (fun x=>decide (0≤x)&&decide (x<256))=true then some (.v (.string (strOfNums ns))) else none else none
 | _,_=>none

def D.ustrh (e:TypeId)(h p n:D):Option D:=
 (D.ustr e h p n).bind fun _=>match p with
 | .loc i 0=>(match h with | .st bs=>some (.st (bs.set i (.tup []))) | _=>none)
 | _=>some h

def D.asl (n sz:Nat)(p lo:D):Option D:=
 match p,lo with
 | .loc i off,.v (.int _ l)=>if 0≤l∧l<(n:Int)∧0<off+l.toNat*sz then some (.sl i (off+l.toNat*sz) (n-l.toNat)) else none
 | _,_=>none

def D.bstrh (h x:D):Option D:=
 match x with
 | .snil=>some (.v (.string .empty))
 | .sl i off n=>(D.cellsAt h i).bind fun b=>if off+n≤b.2.2.length∧0<n then(bytesOf ((b.2.2.drop off).take n)).map fun ns=>.v (.string (strOfNums ns)) else none
 | x=>D.bstr x

def D.peq (neg:Bool)(x y:D):Option D:=
 match x,y with
 | .loc i o,.loc j p=>if i=j∧o=p then some (.v (.bool (!neg))) else none
 | x,y=>D.bin (bif neg then .neq else .eql) .ptr x y

def D.unifc (t:TypeId)(x:D):Option D:=
 match x with
 | .ifc t' y=>if t'=t then some y else none
 | _=>none

def D.m4 (op:MOp)(a b c d:D):Option D:=
 match op with
 | .sidx=>D.sidx a b
 | .bstr=>D.bstr a
 | .srng=>D.srng a b
 | .snh=>D.snh a b
 | .snv=>D.snv a b
 | .ssub=>D.ssub a b c
 | .gix g len sz=>D.gix g len sz a b
 | .sib=>D.sib a b
 | .sbytes=>D.sbytes a
 | .uptr e n=>D.uptr e n a b
 | .usd=>D.usd a
 | .mclv=>D.mclv a b
 | .mclh=>D.mclh a b
 | .ustr e=>D.ustr e a b c
 | .ustrh e=>D.ustrh e a b c
 | .asl n sz=>D.asl n sz a b
 | .bstrh=>D.bstrh a b
 | .unifc t=>D.unifc t a
 | .peq neg=>D.peq neg a b
 | .newm=>(match a with | .st bs=>some (.st (bs++[.mblk []])) | _=>none)
 | .fstm=>(match a with | .st bs=>some (.mp bs.length) | _=>none)
 | .get kd g=>(D.entries a b).bind fun kvs=>(D.mlook kd c kvs).bind fun r=>
   let x:=match r with | some (_,u)=>u | none=>d
   if g=true∨x.one=true then some x else none
 | .getok kd=>(D.entries a b).bind fun kvs=>(D.mlook kd c kvs).map fun r=>match r with | some (_,u)=>.tup [u,.bool true] | none=>.tup [d,.bool false]
 | .put kd=>D.mput kd a b c d
 | .del kd=>D.mdel kd a b c
 | .mlen=>(D.entries a b).map fun kvs=>.int kvs.length
 | .ifnil neg=>(match a with | .ifc _ _=>some (.bool neg) | .v .nilIface=>some (.bool (!neg)) | _=>none)
 | .tassert t=>(match a with | .ifc t' x=>some (if t'=t then .tup [x,.bool true] else .tup [b,.bool false]) | .v .nilIface=>some (.tup [b,.bool false]) | _=>none)
 | .isifc=>(match a with | .ifc t x=>some (.ifc t x) | _=>none)
 | .same=>if D.same a b=true then some a else none
 | .rng=>D.mrng a b
 | .next=>D.mnext a b
 | .entry=>D.mentry a b
 | .entv kd=>D.mentv kd a b c d
 | .entm kd=>D.mentm kd a b c d
 | .ents=>D.ments a b c d
 | .noids=>if a.noid=true then some a else none
 | .elemA n k=>D.elemA n k a b

abbrev D.undef:D:=.tup []

def E.eval (env:List D):E→Option D
 | .sym k=>env[k]?
 | .const d=>some d
 | .bin op kd a b=>(a.eval env).bind fun x=>(b.eval env).bind fun y=>D.bin op kd x y
 | .un op a=>(a.eval env).bind (D.un op)
 | .conv k a=>(a.eval env).bind (D.conv k)
 | .lenL a=>(a.eval env).bind D.lenL
 | .lenS a=>(a.eval env).bind D.lenS
 | .scal a=>(a.eval env).bind D.scal
 | .cell i a=>(a.eval env).bind (D.cell i)
 | .cells i n a=>(a.eval env).bind (D.part i n)
 | .aggN n a=>(a.eval env).bind (D.aggN n)
 | .idx a i=>(a.eval env).bind fun x=>(i.eval env).bind fun y=>D.idx x y
 | .idxN n a i=>(a.eval env).bind fun x=>(i.eval env).bind fun y=>D.idxN n x y
 | .nil=>some (.agg [])
 | .cons a b=>(a.eval env).bind fun x=>(b.eval env).bind fun y=>D.cons x y
 | .one a=>(a.eval env).map fun x=>.lst [x]
 | .app n m a b=>(a.eval env).bind fun x=>(b.eval env).bind fun y=>D.app n m x y
 | .lcons a b=>(a.eval env).bind fun x=>(b.eval env).bind fun y=>D.lcons x y
 | .mkptr a=>(a.eval env).bind D.mkptr
 | .mkfn f a b=>(a.eval env).bind fun x=>(b.eval env).bind fun y=>D.mkfn f x y
 | .sub n a l h=>(a.eval env).bind fun x=>(l.eval env).bind fun y=>(h.eval env).bind fun z=>D.sub n x y z
 | .set a i off x=>(a.eval env).bind fun l=>(i.eval env).bind fun n=>(x.eval env).bind fun y=>D.set l n off y
 | .ite g a b=>match g.eval env with
  | some (.v (.bool true))=>a.eval env
  | some (.v (.bool false))=>b.eval env
  | _=>none
 | .guard g want a=>match g.eval env with
  | some (.v (.bool b))=>if b=want then a.eval env else some D.undef
  | _=>none
 | .tnil=>some (.tup [])
 | .tcons a b=>(a.eval env).bind fun x=>(b.eval env).bind fun y=>D.tcons x y
 | .tget i a=>(a.eval env).bind (D.tget i)
 | .rep b n d=>(n.eval env).bind fun x=>D.rep b x d
 | .deref a=>(a.eval env).bind D.deref
 | .ifc t a=>(a.eval env).map (.ifc t)
 | .mm m a b=>(a.eval env).bind fun x=>(b.eval env).bind fun y=>D.mm m x y
 | .padd k a=>(a.eval env).bind (D.padd k)
 | .nn a=>(a.eval env).bind D.nn
 | .eaddr n a b=>(a.eval env).bind fun x=>(b.eval env).bind fun y=>D.eaddr n x y
 | .ld g n a b=>(a.eval env).bind fun x=>(b.eval env).bind fun y=>D.ld g n x y
 | .sto n a b c=>(a.eval env).bind fun x=>(b.eval env).bind fun y=>(c.eval env).bind fun z=>D.sto n x y z
 | .newb e n a b=>(a.eval env).bind fun x=>(b.eval env).bind fun y=>D.newb e n x y
 | .fstid a=>(a.eval env).bind D.fstid
 | .newv e n a b=>(a.eval env).bind fun x=>(b.eval env).bind fun y=>D.newv e n x y
 | .fstsl a b=>(a.eval env).bind fun x=>(b.eval env).bind fun y=>D.fstsl x y
 | .apph e n m a b c=>(a.eval env).bind fun x=>(b.eval env).bind fun y=>(c.eval env).bind fun z=>D.apph e n m x y z
 | .apps a b c=>(a.eval env).bind fun x=>(b.eval env).bind fun y=>(c.eval env).bind fun z=>D.apps x y z
 | .frzv g a b=>(a.eval env).bind fun x=>(b.eval env).bind fun y=>D.frzv g x y
 | .frzh a b=>(a.eval env).bind fun x=>(b.eval env).bind fun y=>D.frzh x y
 | .m4 op a b c d=>(a.eval env).bind fun x=>(b.eval env).bind fun y=>(c.eval env).bind fun z=>(d.eval env).bind fun u=>D.m4 op x y z u

theorem E.eval_mono {env env' : List D} (h : env <+: env') : ∀ (x : E) {d : D}, x.eval env = some d → x.eval env' = some d := by
  obtain ⟨r, rfl⟩ := h
  intro x
  induction x <;> intro d hd <;> simp only [E.eval, Option.bind_eq_some_iff, Option.map_eq_some_iff] at hd ⊢
  case sym k =>
    have hk : k < env.length := (List.getElem?_eq_some_iff.1 hd).1
    rw [List.getElem?_append_left hk]
    exact hd
  case ite c a b hc ha hb =>
    cases h : c.eval env with
    | none => simp [h] at hd
    | some y =>
      rw [hc h]
      rw [h] at hd
      split at hd <;> first | (rename_i e; cases e; exact ha hd) | (rename_i e; cases e; exact hb hd) | simp at hd
  case guard c want a hc ha =>
    cases h : c.eval env with
    | none => simp [h] at hd
    | some y =>
      rw [hc h]
      rw [h] at hd
      split at hd
      · rename_i e
        cases e
        split at hd
        · rename_i hb; rw [if_pos hb]; exact ha hd
        · rename_i hb; rw [if_neg hb]; exact hd
      · simp at hd
  all_goals first
    | exact hd
    | (rename_i ha; obtain ⟨x, h1, h2⟩ := hd; exact ⟨x, ha h1, h2⟩)
    | (rename_i ha hb; obtain ⟨x, h1, y, h2, h3⟩ := hd; exact ⟨x, ha h1, y, hb h2, h3⟩)
    | (rename_i ha hb hc; obtain ⟨x, h1, y, h2, z, h3, h4⟩ := hd; exact ⟨x, ha h1, y, hb h2, z, hc h3, h4⟩)
    | (rename_i ha hb hc he; obtain ⟨x, h1, y, h2, z, h3, u, h4, h5⟩ := hd; exact ⟨x, ha h1, y, hb h2, z, hc h3, u, he h4, h5⟩)

end Go.Am

/-
 Symbolic values and states of a frame;what it means that a frame and a world are as a symbolic state says.
-/
namespace Go.Am
noncomputable section

inductive SV where
 | junk
 | e (x:E) (s:Bool)
 | agg (cs:List SV)
 | tup (vs:List SV)
 | addr (o off:Nat)
 | eaddr (o:Nat) (i:E) (size off:Nat)
 | iptr (x:E) (off:Nat)
 | own (x:E) (k:Nat)
 | slc (o:Nat)
 | func (fn:Fn) (cap:List SV)
 | cond (act:List (E×Bool)) (sv:SV)
 deriving Inhabited

structure StCfg where
 ro:Bool
 wr:List Nat
 pubs:List Nat
 dats:List Nat
 pan:List Nat
 frzs:List (Nat×Nat)
 keep:List Nat:=[]
 nils:Bool:=false
 maps:List TypeId:=[]
 locs:List Nat:=[]
 stk:Bool:=false
 invs:List (Nat×Nat):=[]
 deriving Inhabited,DecidableEq

def HID:Nat:=1000000

inductive SObj where
 | box (cs:List SV)
 | row (x:E) (size:Nat)
 | tok (elem:TypeId) (size:Nat)
 | store (cf:StCfg) (x:E)
 deriving Inhabited

def SObj.ro:SObj→Bool
 | .store cf _=>cf.ro
 | _=>false

structure SState where
 tmps:List SV
 mem:List (Option SObj)
 hs:Option SObj
 deriving Inhabited

/-! lists by their recursors (the kernel is quicker so) -/

def rget {α:Type}(x0:α)(l:List α):Nat→α:=List.rec (motive:=fun _=>Nat→α) (fun _=>x0) (fun x _ ih n=>Nat.rec (motive:=fun _=>α) x (fun m _=>ih m) n) l
def rset {α:Type}(x:α)(l:List α):Nat→List α:=List.rec (motive:=fun _=>Nat→List α) (fun _=>[]) (fun y r ih n=>Nat.rec (motive:=fun _=>List α) (x :: r) (fun m _=>y :: ih m) n) l
def rmap {α β:Type}(f:α→β)(l:List α):List β:=List.rec (motive:=fun _=>List β) [] (fun x _ ih=>f x :: ih) l

theorem rget_eq {α:Type}(x0:α):∀(l:List α) (n:Nat),rget x0 l n=l.getD n x0
 | [],_=>rfl
 | _ :: _,0=>rfl
 | _ :: r,n+1=>by
  show rget x0 r n=_
  rw[rget_eq x0 r n]
  simp[List.getD]

theorem rset_eq {α:Type}(x:α):∀(l:List α) (n:Nat),rset x l n=l.set n x
 | [],_=>rfl
 | _ :: _,0=>rfl
 | y :: r,n+1=>by
  show y :: rset x r n=y :: r.set n x
  rw[rset_eq x r n]

theorem rmap_eq {α β:Type}(f:α→β):∀l:List α,rmap f l=l.map f
 | []=>rfl
 | x :: r=>by
  show f x :: rmap f r=f x :: r.map f
  rw[rmap_eq f r]

def SState.tmp (σ:SState)(t:Nat):SV:=rget .junk σ.tmps t
def SState.obj (σ:SState)(o:Nat):Option SObj:=if o=HID then σ.hs else rget none σ.mem o
def SState.put (σ:SState)(dst:Option Tmp)(sv:SV):SState:=match dst with | some d=>{ σ with tmps:=rset sv σ.tmps d } | none=>σ
def SState.setObj (σ:SState)(o:Nat)(x:Option SObj):SState:=if o=HID then { σ with hs:=x } else { σ with mem:=rset x σ.mem o }

theorem SState.tmp_def (σ:SState)(t:Nat):σ.tmp t=σ.tmps.getD t .junk:=rget_eq _ _ _
theorem SState.obj_def (σ:SState)(o:Nat):σ.obj o=if o=HID then σ.hs else σ.mem.getD o none:=by unfold SState.obj;rw[rget_eq]
theorem SState.put_def (σ:SState)(dst:Option Tmp)(sv:SV):σ.put dst sv=match dst with | some d=>{ σ with tmps:=σ.tmps.set d sv } | none=>σ:=by unfold SState.put;cases dst <;> simp only[rset_eq]
theorem SState.setObj_def (σ:SState)(o:Nat)(x:Option SObj):σ.setObj o x=if o=HID then { σ with hs:=x } else { σ with mem:=σ.mem.set o x }:=by unfold SState.setObj;rw[rset_eq]

structure Rho where
 blk:Nat→Nat
 val:Nat→Value
 S:Sets
 foot:Nat→Prop

def actHolds (env:List D)(act:List (E×Bool)):Prop:=∀p,p∈act→p.1.eval env=some (.bool p.2)

inductive SRd (w:World) (ρ:Rho) (env:List D):Value→SV→Prop
 | junk {v:Value}:SRd w ρ env v .junk
 | e {v:Value} {x:E} {s:Bool} {d:D} (hx:x.eval env=some d) (h:RdD w ρ.S v d) (h1:s=true→d.one=true):SRd w ρ env v (.e x s)
 | agg {vs:Array Value} {cs:List SV} (hl:vs.size=cs.length) (ho:∀(i:Nat) (v:Value),vs[i]? = some v→v.oneCell'=true)
   (h:∀(i:Nat) (v:Value) (c:SV),vs[i]? = some v→cs[i]? = some c→SRd w ρ env v c):SRd w ρ env (.agg vs) (.agg cs)
 | tup {vs:Array Value} {cs:List SV} (hl:vs.size=cs.length)
   (h:∀(i:Nat) (v:Value) (c:SV),vs[i]? = some v→cs[i]? = some c→SRd w ρ env v c):SRd w ρ env (.tuple vs) (.tup cs)
 | addr {o off:Nat}:SRd w ρ env (.pointer (some ⟨ρ.blk o,off,none⟩)) (.addr o off)
 | eaddr {o size off n:Nat} {x:E} {k:IntKind} (hx:x.eval env=some (.v (.int k n))):SRd w ρ env (.pointer (some ⟨ρ.blk o,n*size+off,none⟩)) (.eaddr o x size off)
 | iptr {v:Value} {x:E} {off:Nat} {d:D} (hx:x.eval env=some d) (h:RdD w ρ.S v (.ptr (d.cells.drop off))):SRd w ρ env v (.iptr x off)
 | own {v:Value} {x:E} {k:Nat} {es:List D} (hx:x.eval env=some (.lst es)) (h:RdD w ρ.S v (.lst es)) (hv:v=ρ.val k):SRd w ρ env v (.own x k)
 | slc {o:Nat}:SRd w ρ env (ρ.val o) (.slc o)
 | func {fn:Fn} {vs:Array Value} {cs:List SV} (hl:vs.size=cs.length)
   (h:∀(i:Nat) (v:Value) (c:SV),vs[i]? = some v→cs[i]? = some c→SRd w ρ env v c):SRd w ρ env (.func fn #[] vs) (.func fn cs)
 | cond {v:Value} {act:List (E×Bool)} {sv:SV} (hd:∀p,p∈act→∃d,p.1.eval env=some d) (h:actHolds env act→SRd w ρ env v sv) (hn:¬actHolds env act→v=undef):SRd w ρ env v (.cond act sv)

section
variable {w:World} {ρ:Rho} {env:List D} {v:Value}
theorem SRd.e_inv {x:E}{s:Bool}(h:SRd w ρ env v (.e x s)):∃d,x.eval env=some d∧RdD w ρ.S v d∧(s=true→d.one=true):=by
 generalize hs:SV.e x s=sv at h
 cases h <;> cases hs
 exact⟨_,by assumption,by assumption,by assumption⟩
theorem SRd.agg_inv {cs:List SV}(h:SRd w ρ env v (.agg cs)):∃vs:Array Value,v=.agg vs∧vs.size=cs.length∧(∀(i:Nat) (v:Value),vs[i]? = some v→v.oneCell'=true)∧∀(i:Nat) (v:Value) (c:SV),vs[i]? = some v→cs[i]? = some c→SRd w ρ env v c:=by
 generalize hs:SV.agg cs=sv at h
 cases h <;> cases hs
 exact⟨_,rfl,by assumption,by assumption,by assumption⟩
theorem SRd.tup_inv {cs:List SV}(h:SRd w ρ env v (.tup cs)):∃vs:Array Value,v=.tuple vs∧vs.size=cs.length∧∀(i:Nat) (v:Value) (c:SV),vs[i]? = some v→cs[i]? = some c→SRd w ρ env v c:=by
 generalize hs:SV.tup cs=sv at h
 cases h <;> cases hs
 exact⟨_,rfl,by assumption,by assumption⟩
theorem SRd.addr_inv {o off:Nat}(h:SRd w ρ env v (.addr o off)):v=.pointer (some ⟨ρ.blk o,off,none⟩):=by
 generalize hs:SV.addr o off=sv at h
 cases h <;> cases hs
 rfl
theorem SRd.eaddr_inv {o size off:Nat}{x:E}(h:SRd w ρ env v (.eaddr o x size off)):∃(n:Nat) (k:IntKind),x.eval env=some (.v (.int k n))∧v=.pointer (some ⟨ρ.blk o,n*size+off,none⟩):=by
 generalize hs:SV.eaddr o x size off=sv at h
 cases h <;> cases hs
 exact⟨_,_,by assumption,rfl⟩
theorem SRd.iptr_inv {off:Nat}{x:E}(h:SRd w ρ env v (.iptr x off)):∃d,x.eval env=some d∧RdD w ρ.S v (.ptr (d.cells.drop off)):=by
 generalize hs:SV.iptr x off=sv at h
 cases h <;> cases hs
 exact⟨_,by assumption,by assumption⟩
theorem SRd.own_inv {k:Nat}{x:E}(h:SRd w ρ env v (.own x k)):∃es,x.eval env=some (.lst es)∧RdD w ρ.S v (.lst es)∧v=ρ.val k:=by
 generalize hs:SV.own x k=sv at h
 cases h <;> cases hs
 exact⟨_,by assumption,by assumption,by assumption⟩
theorem SRd.slc_inv {o:Nat}(h:SRd w ρ env v (.slc o)):v=ρ.val o:=by
 generalize hs:SV.slc o=sv at h
 cases h <;> cases hs
 rfl
theorem SRd.func_inv {fn:Fn}{cs:List SV}(h:SRd w ρ env v (.func fn cs)):∃vs:Array Value,v=.func fn #[] vs∧vs.size=cs.length∧∀(i:Nat) (v:Value) (c:SV),vs[i]? = some v→cs[i]? = some c→SRd w ρ env v c:=by
 generalize hs:SV.func fn cs=sv at h
 cases h <;> cases hs
 exact⟨_,rfl,by assumption,by assumption⟩
theorem SRd.cond_inv {act:List (E×Bool)}{sv:SV}(h:SRd w ρ env v (.cond act sv)):(∀p,p∈act→∃d,p.1.eval env=some d)∧(actHolds env act→SRd w ρ env v sv)∧(¬actHolds env act→v=undef):=by
 generalize hs:SV.cond act sv=sv' at h
 cases h <;> cases hs
 exact⟨by assumption,by assumption,by assumption⟩
end

mutual
def SV.avoids (o:Nat):SV→Bool
 | .junk | .e _ _ | .iptr _ _=>true
 | .agg cs | .tup cs=>SV.avoidsAll o cs
 | .func _ cs=>SV.avoidsAll o cs
 | .addr o' _ | .eaddr o' _ _ _ | .own _ o' | .slc o'=>o' != o
 | .cond _ sv=>sv.avoids o
def SV.avoidsAll (o:Nat):List SV→Bool
 | []=>true
 | s :: r=>s.avoids o&&SV.avoidsAll o r
end

theorem SV.avoidsAll_get {o:Nat}:∀{cs:List SV} {i:Nat} {c:SV},SV.avoidsAll o cs=true→cs[i]? = some c→c.avoids o=true
 | [],i,c,_,h=>by simp at h
 | s :: r,0,c,h,hi=>by simp[SV.avoidsAll] at h hi;exact hi ▸ h.1
 | s :: r,i+1,c,h,hi=>by simp[SV.avoidsAll] at h hi;exact SV.avoidsAll_get h.2 hi

def SObj.avoids (o:Nat):SObj→Bool
 | .box cs=>SV.avoidsAll o cs
 | .row _ _ | .tok _ _ | .store _ _=>true

structure Rho.Le (ρ ρ':Rho)(ex:Nat→Prop):Prop where
 blk:∀o,¬ex o→ρ'.blk o=ρ.blk o
 val:∀o,¬ex o→ρ'.val o=ρ.val o
 S:ρ.S≤ρ'.S

structure Rho.More (ρ ρ':Rho)(ex:Nat→Prop):Prop extends Rho.Le ρ ρ' ex where
 n:¬ex HID→ρ'.S.n=ρ.S.n
 foot:¬ex HID→ρ'.foot=ρ.foot

theorem Rho.More.refl (ρ:Rho)(ex:Nat→Prop):ρ.More ρ ex:=⟨⟨fun _ _=>rfl,fun _ _=>rfl,Sets.le_refl _⟩,fun _=>rfl,fun _=>rfl⟩

theorem actHolds_mono {env env':List D}(h:env <+: env'){act:List (E×Bool)}(hd:∀p,p∈act→∃d,p.1.eval env=some d)(ha:actHolds env' act):actHolds env act:=by
 intro p hp
 obtain⟨b,hb⟩:=hd p hp
 have h1:=ha p hp
 rw[E.eval_mono h _ hb] at h1
 rw[hb];exact h1

theorem actHolds_up {env env':List D}(h:env <+: env'){act:List (E×Bool)}(ha:actHolds env act):actHolds env' act:=fun p hp=>E.eval_mono h _ (ha p hp)

theorem SRd.env {w:World}{ρ:Rho}{env env':List D}{v:Value}{sv:SV}(h:SRd w ρ env v sv)(he:env <+: env'):SRd w ρ env' v sv:=by
 induction h with
 | junk=>exact .junk
 | e hx h h1=>exact .e (E.eval_mono he _ hx) h h1
 | agg hl ho _ ih=>exact .agg hl ho ih
 | tup hl _ ih=>exact .tup hl ih
 | addr=>exact .addr
 | eaddr hx=>exact .eaddr (E.eval_mono he _ hx)
 | iptr hx h=>exact .iptr (E.eval_mono he _ hx) h
 | own hx h hv=>exact .own (E.eval_mono he _ hx) h hv
 | slc=>exact .slc
 | func hl _ ih=>exact .func hl ih
 | cond hd _ hn ih=>exact .cond (fun p hp=>let ⟨d,h⟩:=hd p hp;⟨d,E.eval_mono he _ h⟩) (fun ha=>ih (actHolds_mono he hd ha)) fun ha=>hn fun h=>ha (actHolds_up he h)

theorem SRd.keepL {w w':World}{ρ ρ':Rho}{ex:Nat→Prop}{env:List D}{v:Value}{sv:SV}(h:SRd w ρ env v sv)(hk:Keeps ρ.S w w')(hm:ρ.Le ρ' ex)(ha:∀o,ex o→sv.avoids o=true):SRd w' ρ' env v sv:=by
 induction h with
 | junk=>exact .junk
 | e hx h h1=>exact .e hx (h.keep hk hm.S) h1
 | agg hl ho _ ih=>exact .agg hl ho fun i v c h1 h2=>ih i v c h1 h2 fun o ho=>SV.avoidsAll_get (by simpa[SV.avoids] using ha o ho) h2
 | tup hl _ ih=>exact .tup hl fun i v c h1 h2=>ih i v c h1 h2 fun o ho=>SV.avoidsAll_get (by simpa[SV.avoids] using ha o ho) h2
 | @addr o off=>
  rw[←hm.blk o (fun ho=>by have:=ha o ho;simp[SV.avoids] at this)]
  exact .addr
 | @eaddr o size off n x k hx=>
  rw[←hm.blk o (fun ho=>by have:=ha o ho;simp[SV.avoids] at this)]
  exact .eaddr hx
 | iptr hx h=>exact .iptr hx (h.keep hk hm.S)
 | @own v x k es hx h hv=>exact .own hx (h.keep hk hm.S) (hv.trans (hm.val k (fun ho=>by have:=ha k ho;simp[SV.avoids] at this)).symm)
 | @slc o=>
  rw[←hm.val o (fun ho=>by have:=ha o ho;simp[SV.avoids] at this)]
  exact .slc
 | func hl _ ih=>exact .func hl fun i v c h1 h2=>ih i v c h1 h2 fun o ho=>SV.avoidsAll_get (by simpa[SV.avoids] using ha o ho) h2
 | cond hd _ hn ih=>exact .cond hd (fun hh=>ih hh fun o ho=>by simpa[SV.avoids] using ha o ho) hn

theorem SRd.keep {w w':World}{ρ ρ':Rho}{ex:Nat→Prop}{env:List D}{v:Value}{sv:SV}(h:SRd w ρ env v sv)(hk:Keeps ρ.S w w')(hm:ρ.More ρ' ex)(ha:∀o,ex o→sv.avoids o=true):SRd w' ρ' env v sv:=h.keepL hk hm.toLe ha

def objBlk (ρ:Rho)(o:Nat):SObj→Nat→Prop
 | .box _,b | .row _ _,b=>ρ.blk o=b
 | .tok _ _,b=>(ρ.val o).ownBlock=some b
 | .store _ _,b=>ρ.foot b

structure MapSz (es:Array MapEntry)(clock n:Nat):Prop where
 len:es.size=n
 clk:clock=n
 born:∀(j:Nat) (x:MapEntry),es[j]? = some x→x.born=j

def MapSzL (es:Array MapEntry)(clock:Nat)(kvs:List D):Prop:=if D.lost kvs=true then es.size=(D.kept kvs).length else MapSz es clock kvs.length

theorem MapSzL.size {es:Array MapEntry}{clock:Nat}{kvs:List D}(h:MapSzL es clock kvs):es.size=(D.kept kvs).length:=by
 unfold MapSzL at h
 split at h
 ·exact h
 ·rename_i hl
  rw[D.kept_of (by simpa using hl)]
  exact h.len

theorem MapSzL.sz {es:Array MapEntry}{clock:Nat}{kvs:List D}(h:MapSzL es clock kvs)(hl:D.lost kvs=false):MapSz es clock kvs.length:=by
 unfold MapSzL at h
 rwa [if_neg (by simp[hl])] at h

theorem MapSzL.of {es:Array MapEntry}{clock:Nat}{kvs:List D}(h:MapSz es clock kvs.length)(hl:D.lost kvs=false):MapSzL es clock kvs:=by
 unfold MapSzL
 rwa [if_neg (by simp[hl])]

def anyT:TypeId:=1000000000

def CellsAt (w:World)(b:Nat)(vs:Array Value)(e:TypeId):Prop:=∃e',w.heap[b]? = some (.cells vs e' (0,0))∧(e=anyT∨e'=e)

theorem CellsAt.of {w:World}{b:Nat}{vs:Array Value}{e:TypeId}(h:w.heap[b]? = some (.cells vs e (0,0))):CellsAt w b vs e:=⟨e,h,.inr rfl⟩
theorem CellsAt.to {w w':World}{b:Nat}{vs:Array Value}{e:TypeId}(h:CellsAt w b vs e)(hh:w'.heap[b]? = w.heap[b]?):CellsAt w' b vs e:=by
 obtain⟨e',h1,h2⟩:=h
 exact⟨e',hh.trans h1,h2⟩

structure StOk (w:World)(S:Sets)(foot:Nat→Prop)(bs:List D):Prop where
 n:S.n=bs.length
 cells:∀(i:Nat) (e:TypeId) (sz:Nat) (cs:List D),bs[i]? = some (.blk e sz cs)→foot (S.loc i)∧∃vs:Array Value,CellsAt w (S.loc i) vs e∧vs.size=S.cap i*sz∧cs.length≤vs.size ∧
  (∀(j:Nat) (d:D),cs[j]? = some d→d.one=true)∧(∀(j:Nat) (v:Value) (d:D),vs[j]? = some v→cs[j]? = some d→RdD w S v d)∧∀off,¬S (S.loc i) off
 nos:∀b off,foot b→¬S b off
 maps:∀(i:Nat) (kvs:List D),bs[i]? = some (.mblk kvs)→foot (S.loc i)∧∃(es:Array MapEntry) (clock:Nat),w.heap[S.loc i]? = some (.map es clock)∧MapSzL es clock kvs∧(∀off,¬S (S.loc i) off) ∧
  ∀(j:Nat) (e:MapEntry) (kv:D),es[j]? = some e→(D.kept kvs)[j]? = some kv→∃dk dv,kv=.tup [dk,dv]∧RdD w S e.key dk∧RdD w S e.val dv
 inj:∀(i j:Nat) (x y:D),bs[i]? = some x→bs[j]? = some y→x.live=true→y.live=true→S.loc i=S.loc j→i=j
 its:∀(i:Nat) (z:D),bs[i]? = some z→z.isIt=true→foot (S.loc i)∧ItOk S i w.heap[S.loc i]? z∧∀off,¬S (S.loc i) off

theorem StOk.live_foot {w:World}{S:Sets}{foot:Nat→Prop}{bs:List D}(h:StOk w S foot bs){i:Nat}{x:D}(hi:bs[i]? = some x)(hx:x.live=true):foot (S.loc i):=by
 cases x <;> simp[D.live] at hx
 ·exact(h.cells i _ _ _ hi).1
 ·exact(h.maps i _ hi).1
 ·exact(h.its i _ hi rfl).1
 ·exact(h.its i _ hi rfl).1
 ·exact(h.its i _ hi rfl).1
 ·exact(h.its i _ hi rfl).1

theorem StOk.set {w w':World} {S:Sets} {foot:Nat→Prop} {bs:List D} {i:Nat} {z z':D} (hst:StOk w S foot bs) (hK:Keeps S w w') (hz:bs[i]? = some z) (hzl:z.live=true)
  (hother:∀(j:Nat) (x:D),bs[j]? = some x→x.live=true→S.loc j≠S.loc i→w'.heap[S.loc j]? = w.heap[S.loc j]?)
  (h1:∀(e:TypeId) (sz:Nat) (cs:List D),z'=.blk e sz cs→∃vs:Array Value,CellsAt w' (S.loc i) vs e∧vs.size=S.cap i*sz∧cs.length≤vs.size∧(∀(j:Nat) (d:D),cs[j]? = some d→d.one=true)∧∀(j:Nat) (v:Value) (d:D),vs[j]? = some v→cs[j]? = some d→RdD w' S v d)
  (h2:∀kvs:List D,z'=.mblk kvs→∃(es:Array MapEntry) (clock:Nat),w'.heap[S.loc i]? = some (.map es clock)∧MapSzL es clock kvs∧∀(j:Nat) (e:MapEntry) (kv:D),es[j]? = some e→(D.kept kvs)[j]? = some kv→∃dk dv,kv=.tup [dk,dv]∧RdD w' S e.key dk∧RdD w' S e.val dv)
  (h3:z'.isIt=true→ItOk S i w'.heap[S.loc i]? z'):StOk w' S foot (bs.set i z'):=by
 have hf:=hst.live_foot hz hzl
 have hns:∀off,¬S (S.loc i) off:=fun off=>hst.nos _ off hf
 have hc:∀{j:Nat} {x:D},(bs.set i z')[j]? = some x→x.live=true→(j=i∧x=z')∨(bs[j]? = some x∧w'.heap[S.loc j]? = w.heap[S.loc j]?):=by
  intro j x hj hx
  rw[List.getElem?_set] at hj
  split at hj
  ·rename_i hij
   subst hij
   rw[if_pos (List.getElem?_eq_some_iff.1 hz).1] at hj
   cases hj
   exact .inl ⟨rfl,rfl⟩
  ·rename_i hij
   exact .inr ⟨hj,hother j x hj hx fun e=>hij (hst.inj j i _ _ hj hz hx hzl e).symm⟩
 refine⟨by rw[hst.n];simp,fun j e sz cs hj=>?_,hst.nos,fun j kvs hj=>?_,fun j k x y hj hk hx hy hl=>?_,fun j z1 hj hz1=>?_⟩
 ·rcases hc hj rfl with⟨rfl,e1⟩ | ⟨hj',hh⟩
  ·obtain⟨vs,g1,g2,g3,g4,g5⟩:=h1 e sz cs e1.symm
   exact⟨hf,vs,g1,g2,g3,g4,g5,hns⟩
  ·obtain⟨g0,vs,g1,g2,g3,g4,g5,g6⟩:=hst.cells j _ _ _ hj'
   exact⟨g0,vs,g1.to hh,g2,g3,g4,fun k v d hv hd=>(g5 k v d hv hd).keep hK (Sets.le_refl _),g6⟩
 ·rcases hc hj rfl with⟨rfl,e1⟩ | ⟨hj',hh⟩
  ·obtain⟨es,clock,g1,g2,g3⟩:=h2 kvs e1.symm
   exact⟨hf,es,clock,g1,g2,hns,g3⟩
  ·obtain⟨g0,es,clock,g1,g2,g3,g4⟩:=hst.maps j _ hj'
   refine⟨g0,es,clock,hh.trans g1,g2,g3,fun k e kv he hkv=>?_⟩
   obtain⟨dk,dv,k1,k2,k3⟩:=g4 k e kv he hkv
   exact⟨dk,dv,k1,k2.keep hK (Sets.le_refl _),k3.keep hK (Sets.le_refl _)⟩
 ·have old:∀{k:Nat} {x:D},(bs.set i z')[k]? = some x→x.live=true→∃y,bs[k]? = some y∧y.live=true:=fun h hl=>by
   rcases hc h hl with⟨rfl,_⟩ | ⟨h',_⟩
   ·exact⟨z,hz,hzl⟩
   ·exact⟨_,h',hl⟩
  obtain⟨_,a1,a2⟩:=old hj hx
  obtain⟨_,b1,b2⟩:=old hk hy
  exact hst.inj j k _ _ a1 b1 a2 b2 hl
 ·rcases hc hj (D.isIt_live hz1) with⟨rfl,e1⟩ | ⟨hj',hh⟩
  ·subst e1
   exact⟨hf,h3 hz1,hns⟩
  ·rw[hh]
   exact hst.its j _ hj' hz1

def ObjOk (w:World)(ρ:Rho)(env:List D)(o:Nat):SObj→Prop
 | .box cs=>∃(vs:Array Value) (ty:TypeId),w.heap[ρ.blk o]? = some (.cells vs ty (0,0))∧vs.size=cs.length∧(∀(i:Nat) (v:Value),vs[i]? = some v→v.oneCell'=true) ∧
   (∀(i:Nat) (v:Value) (c:SV),vs[i]? = some v→cs[i]? = some c→SRd w ρ env v c)∧∀off,¬ρ.S (ρ.blk o) off
 | .row x size=>∃(vs:Array Value) (ty:TypeId) (es:List D),w.heap[ρ.blk o]? = some (.cells vs ty (0,0))∧x.eval env=some (.lst es)∧(∀(i:Nat) (e:D),es[i]? = some e→e.cells.length=size) ∧
   vs.size=es.length*size∧(∀(i:Nat) (e:D) (j:Nat) (d:D),es[i]? = some e→e.cells[j]? = some d→d.one=true∧∃v,vs[i*size+j]? = some v∧RdD w ρ.S v d) ∧
   ρ.val o=.slice (some ⟨ρ.blk o,0,none⟩) es.length es.length∧es.length≤maxLen∧∀off,¬ρ.S (ρ.blk o) off
 | .store _ x=>∃bs,x.eval env=some (.st bs)∧StOk w ρ.S ρ.foot bs∧o=HID
 | .tok e size=>∃(n:Nat) (xs:List Value),w.ownsRow 0 e size (ρ.val o) n xs∧∀b,(ρ.val o).ownBlock=some b→∀off,n*size≤off→¬ρ.S b off

structure Ent where
 may:Nat→Prop
 S:Sets
 foot:Nat→Prop
 dfs:List Deferred:=[]

structure Rep (w0:World)(X:Ent)(w:World)(a:Act)(σ:SState)(env:List D)(ρ:Rho):Prop where
 size:a.tmps.size=σ.tmps.length
 tmps:∀t,SRd w ρ env (a.tmps.getD t undef) (σ.tmp t)
 objs:∀o x,σ.obj o=some x→ObjOk w ρ env o x
 inj:∀o o' x x' b,σ.obj o=some x→σ.obj o'=some x'→objBlk ρ o x b→objBlk ρ o' x' b→o=o'
 own:∀o x b,σ.obj o=some x→objBlk ρ o x b→((x.ro=true∧X.foot b)∨w0.heap.size≤b∨X.may b)∧b<w.heap.size
 cells:∀b o,ρ.S b o→b<w.heap.size
 os:w.os=w0.os
 tape:TL w w0
 output:w.output=w0.output
 grown:w0.heap.size≤w.heap.size
 old:∀b,b<w0.heap.size→¬X.may b→w.heap[b]? = w0.heap[b]?
 sub:X.S≤ρ.S
 new:∀b o,ρ.S b o→X.S b o∨w0.heap.size≤b∨X.may b
 nod:a.defers=X.dfs
 hold:∀l rec,X.S.hold l=some rec→w0.heap[l]? = some (.loop rec)∧¬X.may l∧¬X.foot l

theorem ObjOk.env {w:World}{ρ:Rho}{env env':List D}{o:Nat}{x:SObj}(h:ObjOk w ρ env o x)(he:env <+: env'):ObjOk w ρ env' o x:=by
 cases x with
 | box cs=>
  obtain⟨vs,ty,h1,h2,h3,h4,h5⟩:=h
  exact⟨vs,ty,h1,h2,h3,fun i v c hv hc=>(h4 i v c hv hc).env he,h5⟩
 | row x size=>
  obtain⟨vs,ty,es,h1,h2,h3⟩:=h
  exact⟨vs,ty,es,h1,E.eval_mono he _ h2,h3⟩
 | tok e size=>exact h
 | store ro x=>
  obtain⟨bs,h1,h2⟩:=h
  exact⟨bs,E.eval_mono he _ h1,h2⟩

theorem Rep.env {w0:World}{X:Ent}{w:World}{a:Act}{σ:SState}{env env':List D}{ρ:Rho}(h:Rep w0 X w a σ env ρ)(he:env <+: env'):Rep w0 X w a σ env' ρ:=
 ⟨h.size,fun t=>(h.tmps t).env he,fun o x hx=>(h.objs o x hx).env he,h.inj,h.own,h.cells,h.os,h.tape,h.output,h.grown,h.old,h.sub,h.new,h.nod,h.hold⟩

theorem SState.tmp_put {σ:SState}{d:Nat}{sv:SV}(hd:d<σ.tmps.length)(t:Nat):(σ.put (some d) sv).tmp t=if t=d then sv else σ.tmp t:=by
 simp only[SState.put_def,SState.tmp_def,List.getD_eq_getElem?_getD,List.getElem?_set]
 by_cases h:d=t
 ·subst h;simp[hd]
 ·simp[h,Ne.symm h]

theorem SState.obj_put (σ:SState)(dst:Option Tmp)(sv:SV)(o:Nat):(σ.put dst sv).obj o=σ.obj o:=by
 cases dst <;> rfl

theorem SState.obj_setObj' {σ:SState}{o:Nat}{x:Option SObj}(ho:o=HID∨o<σ.mem.length)(o':Nat):(σ.setObj o x).obj o'=if o'=o then x else σ.obj o':=by
 simp only[SState.setObj_def,SState.obj_def]
 by_cases hh:o=HID
 ·subst hh
  simp only[if_true]
  split <;> rfl
 ·have ho:=ho.resolve_left hh
  simp only[hh,if_false,List.getD_eq_getElem?_getD,List.getElem?_set]
  by_cases h:o=o'
  ·subst h;simp[ho,hh]
  ·simp[h,Ne.symm h]

theorem SState.obj_setObj {σ:SState}{o:Nat}{x:Option SObj}(ho:o<σ.mem.length)(o':Nat):(σ.setObj o x).obj o'=if o'=o then x else σ.obj o':=SState.obj_setObj' (.inr ho) o'

theorem SState.obj_setObj_ne (σ:SState){o o':Nat}(x:Option SObj)(h:o'≠o):(σ.setObj o x).obj o'=σ.obj o':=by
 simp only[SState.setObj_def,SState.obj_def]
 by_cases hh:o=HID
 ·subst hh
  simp[h]
 ·simp only[hh,if_false,List.getD_eq_getElem?_getD,List.getElem?_set]
  simp[Ne.symm h]

theorem SState.obj_setObj_some {σ:SState}{o o':Nat}{x:Option SObj}{y:SObj}(h:(σ.setObj o x).obj o'=some y):(o'=o∧x=some y)∨(o'≠o∧σ.obj o'=some y):=by
 by_cases e:o'=o
 ·subst e
  refine .inl ⟨rfl,?_⟩
  simp only[SState.setObj_def,SState.obj_def] at h
  by_cases hh:o'=HID
  ·simpa[hh] using h
  ·simp only[hh,if_false,List.getD_eq_getElem?_getD,List.getElem?_set] at h
   simp only[if_true] at h
   split at h
   ·simpa using h
   ·simp at h
 ·exact .inr ⟨e,by rwa [SState.obj_setObj_ne σ x e] at h⟩

theorem SState.tmp_setObj (σ:SState)(o:Nat)(x:Option SObj)(t:Nat):(σ.setObj o x).tmp t=σ.tmp t:=by
 simp only[SState.setObj_def];split <;> rfl

theorem SState.tmps_setObj (σ:SState)(o:Nat)(x:Option SObj):(σ.setObj o x).tmps=σ.tmps:=by
 simp only[SState.setObj_def];split <;> rfl

theorem SState.mlen_setObj (σ:SState)(o:Nat)(x:Option SObj):(σ.setObj o x).mem.length=σ.mem.length:=by
 simp only[SState.setObj_def];split <;> simp

theorem Act.getD_put (a:Act)(d:Nat)(v:Value)(hd:d<a.tmps.size)(t:Nat):(a.put (some d) v).tmps.getD t undef=if t=d then v else a.tmps.getD t undef:=by
 simp only[Act.put,Array.getD_eq_getD_getElem?,Array.getElem?_setIfInBounds]
 by_cases h:d=t
 ·subst h;simp[hd]
 ·simp[h,Ne.symm h]

theorem Rep.put {w0:World} {X:Ent} {w:World} {a:Act} {σ:SState} {env:List D} {ρ:Rho} (h:Rep w0 X w a σ env ρ) {dst:Option Tmp} {v:Value} {sv:SV} (hd:∀d,dst=some d→d<σ.tmps.length)
  (hv:SRd w ρ env v sv):Rep w0 X w (a.put dst v) (σ.put dst sv) env ρ:=by
 cases dst with
 | none=>exact h
 | some d=>
  have hd:=hd d rfl
  refine⟨by simp[Act.put,SState.put_def,h.size],fun t=>?_,h.objs,h.inj,h.own,h.cells,h.os,h.tape,h.output,h.grown,h.old,h.sub,h.new,h.nod,h.hold⟩
  rw[SState.tmp_put hd,Act.getD_put _ _ _ (by rw[h.size];exact hd)]
  split
  ·exact hv
  ·exact h.tmps t

end
end Go.Am

/-
 How 'Rep' goes on when the world changes: a draw,new blocks,a store into an object of the call's own.
-/
namespace Go.Am
noncomputable section

theorem heapOld (w:World)(o:Obj)(b:Nat)(hb:b<w.heap.size):(w.alloc o).heap[b]? = w.heap[b]?:=by
 simp only[World.alloc]
 rw[Array.getElem?_push,if_neg (by omega)]

theorem ownsRow_of_block {w w':World}{base:Nat}{e:TypeId}{size:Nat}{v:Value}{n:Nat}{xs:List Value}(h:w.ownsRow base e size v n xs)(hb:∀g,v.ownBlock=some g→w'.heap[g]? = w.heap[g]?):w'.ownsRow base e size v n xs:=by
 refine⟨h.1,?_⟩
 rcases h.2 with h2 | ⟨g,cap,cur,hv,hg,hh,r⟩
 ·exact .inl h2
 ·refine .inr ⟨g,cap,cur,hv,hg,?_,r⟩
  rw[hb g (by rw[hv];rfl)]
  exact hh

theorem ObjOk.keepL {w w':World} {ρ ρ':Rho} {ex:Nat→Prop} {env:List D} {o:Nat} {x:SObj} (h:ObjOk w ρ env o x) (hk:Keeps ρ.S w w') (hm:ρ.Le ρ' ex) (hst:o=HID→ρ'.S.n=ρ.S.n∧ρ'.foot=ρ.foot) (ho:¬ex o) (ha:∀o',ex o'→x.avoids o'=true)
  (hb:∀b,objBlk ρ o x b→w'.heap[b]? = w.heap[b]?) (hS:∀b off,objBlk ρ o x b→ρ'.S b off→ρ.S b off):ObjOk w' ρ' env o x:=by
 have h1:=hm.blk o ho
 have h2:=hm.val o ho
 cases x with
 | box cs=>
  obtain⟨vs,ty,hh,hl,hone,hr,hn⟩:=h
  refine⟨vs,ty,by rw[h1,hb _ rfl];exact hh,hl,hone,fun i v c hv hc=>(hr i v c hv hc).keepL hk hm fun o' ho'=>SV.avoidsAll_get (by simpa[SObj.avoids] using ha o' ho') hc,fun off hs=>?_⟩
  rw[h1] at hs
  exact hn off (hS _ off rfl hs)
 | row x size=>
  obtain⟨vs,ty,es,hh,hx,hz,hl,hr,hv,hm1,hn⟩:=h
  refine⟨vs,ty,es,by rw[h1,hb _ rfl];exact hh,hx,hz,hl,fun i e j d he hd=>?_,by rw[h1,h2];exact hv,hm1,fun off hs=>?_⟩
  ·obtain⟨hone,v,hv,hrd⟩:=hr i e j d he hd
   exact⟨hone,v,hv,hrd.keep hk hm.S⟩
  ·rw[h1] at hs
   exact hn off (hS _ off rfl hs)
 | tok e size=>
  obtain⟨n,xs,hown,hn⟩:=h
  refine⟨n,xs,?_,?_⟩
  ·rw[h2]
   exact ownsRow_of_block hown fun g hg=>hb g hg
  ·intro b hbv off hoff hs
   rw[h2] at hbv
   exact hn b hbv off hoff (hS b off hbv hs)
 | store ro x=>
  obtain⟨bs,hx,hs0,he⟩:=h
  obtain⟨hsn,hsf⟩:=hst he
  have hst:=hs0
  refine⟨bs,hx,⟨hsn.trans hst.n,fun i e sz cs hi=>?_,fun b off hf hs=>by rw[hsf] at hf;exact hst.nos b off hf (hS b off hf hs),fun i kvs hi=>?_,fun i j x y hi hj hx hy hl=>?_,fun i z hi hz=>?_⟩,he⟩
  ·obtain⟨hf,vs,hh,hsz,hl,hone,hr,hn⟩:=hst.cells i e sz cs hi
   have hlt:i<ρ.S.n:=by rw[hst.n];exact(List.getElem?_eq_some_iff.1 hi).1
   rw[hm.S.loc i hlt,hm.S.cap i hlt,hsf]
   refine⟨hf,vs,hh.to (hb _ hf),hsz,hl,hone,fun j v d hv hd=>(hr j v d hv hd).keep hk hm.S,fun off hs=>hn off (hS _ off hf hs)⟩
  ·obtain⟨hf,es,clock,hh,hsz,hn,hr⟩:=hst.maps i kvs hi
   have hlt:i<ρ.S.n:=by rw[hst.n];exact(List.getElem?_eq_some_iff.1 hi).1
   rw[hm.S.loc i hlt,hsf]
   refine⟨hf,es,clock,by rw[hb _ hf];exact hh,hsz,fun off hs=>hn off (hS _ off hf hs),fun j e kv he hkv=>?_⟩
   obtain⟨dk,dv,h1,h2,h3⟩:=hr j e kv he hkv
   exact⟨dk,dv,h1,h2.keep hk hm.S,h3.keep hk hm.S⟩
  ·have h1:i<ρ.S.n:=by rw[hst.n];exact(List.getElem?_eq_some_iff.1 hi).1
   have h2:j<ρ.S.n:=by rw[hst.n];exact(List.getElem?_eq_some_iff.1 hj).1
   rw[hm.S.loc i h1,hm.S.loc j h2] at hl
   exact hst.inj i j x y hi hj hx hy hl
  ·obtain⟨hf,hh,hn⟩:=hst.its i z hi hz
   have hlt:i<ρ.S.n:=by rw[hst.n];exact(List.getElem?_eq_some_iff.1 hi).1
   rw[hm.S.loc i hlt,hsf]
   exact⟨hf,by rw[hb _ hf];exact hh.to (by rw[hsn];exact Nat.le_refl _) hm.S.loc (hm.S.lrec i hlt) hlt,fun off hs=>hn off (hS _ off hf hs)⟩

theorem ObjOk.keep {w w':World} {ρ ρ':Rho} {ex:Nat→Prop} {env:List D} {o:Nat} {x:SObj} (h:ObjOk w ρ env o x) (hk:Keeps ρ.S w w') (hm:ρ.More ρ' ex) (ho:¬ex o) (ha:∀o',ex o'→x.avoids o'=true)
  (hb:∀b,objBlk ρ o x b→w'.heap[b]? = w.heap[b]?) (hS:∀b off,objBlk ρ o x b→ρ'.S b off→ρ.S b off):ObjOk w' ρ' env o x:=
 h.keepL hk hm.toLe (fun e=>⟨hm.n (e ▸ ho),hm.foot (e ▸ ho)⟩) ho ha hb hS

theorem objBlk_le {ρ ρ':Rho}{ex:Nat→Prop}(hm:ρ.Le ρ' ex){o:Nat}(hst:o=HID→ρ'.foot=ρ.foot)(ho:¬ex o){w:World}{env:List D}{x:SObj}(h:ObjOk w ρ env o x):objBlk ρ' o x=objBlk ρ o x:=by
 cases x with
 | store ro x=>
  obtain⟨_,_,_,he⟩:=h
  funext b
  simp only[objBlk,hst he]
 | _=>funext b;simp[objBlk,hm.blk o ho,hm.val o ho]

theorem objBlk_more {ρ ρ':Rho}{ex:Nat→Prop}(hm:ρ.More ρ' ex){o:Nat}(ho:¬ex o){w:World}{env:List D}{x:SObj}(h:ObjOk w ρ env o x):objBlk ρ' o x=objBlk ρ o x:=
 objBlk_le hm.toLe (fun e=>hm.foot (e ▸ ho)) ho h

theorem Rep.move {w0:World} {X:Ent} {w w':World} {a:Act} {σ:SState} {env:List D} {ρ ρ':Rho} (h:Rep w0 X w a σ env ρ) (hk:Keeps ρ.S w w') (hm:ρ.More ρ' fun _=>False)
  (hb:∀o x b,σ.obj o=some x→objBlk ρ o x b→w'.heap[b]? = w.heap[b]?) (hS:∀o x b off,σ.obj o=some x→objBlk ρ o x b→ρ'.S b off→ρ.S b off)
  (hc:∀b o,ρ'.S b o→b<w'.heap.size) (hos:w'.os=w.os) (ht:TL w' w) (hout:w'.output=w.output) (hsz:w.heap.size≤w'.heap.size)
  (hold:∀b,b<w0.heap.size→¬X.may b→w'.heap[b]? = w.heap[b]?) (hnew:∀b o,ρ'.S b o→ρ.S b o∨w0.heap.size≤b):Rep w0 X w' a σ env ρ':=by
 refine⟨h.size,fun t=>(h.tmps t).keep hk hm fun _ hf=>hf.elim,fun o x hx=>(h.objs o x hx).keep hk hm id (fun _ hf=>hf.elim) (fun b=>hb o x b hx) (fun b off=>hS o x b off hx),?_,?_,hc,
  hos.trans h.os,ht.trans h.tape,hout.trans h.output,Nat.le_trans h.grown hsz,fun b h1 h2=>(hold b h1 h2).trans (h.old b h1 h2),Sets.le_trans h.sub hm.S,fun b o hs=>(hnew b o hs).elim (h.new b o) fun e=>.inr (.inl e),h.nod,h.hold⟩
 ·intro o o' x x' b h1 h2 h3 h4
  rw[objBlk_more hm (fun hf=>hf) (h.objs _ _ h1)] at h3
  rw[objBlk_more hm (fun hf=>hf) (h.objs _ _ h2)] at h4
  exact h.inj o o' x x' b h1 h2 h3 h4
 ·intro o x b h1 h2
  rw[objBlk_more hm (fun hf=>hf) (h.objs _ _ h1)] at h2
  obtain⟨h3,h4⟩:=h.own o x b h1 h2
  exact⟨h3,Nat.lt_of_lt_of_le h4 hsz⟩

theorem Rep.drew {w0:World}{X:Ent}{w:World}{a:Act}{σ:SState}{env:List D}{ρ:Rho}(h:Rep w0 X w a σ env ρ):Rep w0 X w.drew a σ env ρ:=
 h.move (Keeps.refl _ _) (Rho.More.refl _ _) (fun _ _ _ _ _=>rfl) (fun _ _ _ _ _ _ hs=>hs) h.cells rfl ⟨rfl,Nat.le_succ _⟩ rfl (Nat.le_refl _) (fun _ _ _=>rfl) fun _ _ hs=>.inl hs


def Sets.or (S:Sets)(p:Nat→Nat→Prop):Sets:={ S with mem:=fun b o=>S b o∨p b o }

theorem Sets.le_or (S:Sets)(p:Nat→Nat→Prop):S≤S.or p:=⟨fun _ _ h=>.inl h,Nat.le_refl _,fun _ _=>rfl,fun _ _=>rfl,rfl,fun _ _=>rfl⟩

def Rho.withBlock (ρ:Rho)(b0:Nat):Rho:={ ρ with S:=ρ.S.or fun b _=>b=b0 }

theorem Rho.withBlock_more (ρ:Rho)(b0:Nat)(ex:Nat→Prop):ρ.More (ρ.withBlock b0) ex:=⟨⟨fun _ _=>rfl,fun _ _=>rfl,ρ.S.le_or _⟩,fun _=>rfl,fun _=>rfl⟩

theorem Keeps.alloc {S:Sets}{w:World}(hS:∀b o,S b o→b<w.heap.size)(o:Obj):Keeps S w (w.alloc o):=fun b i hs=>World.cell?_alloc_lt w o ⟨b,i,none⟩ (hS b i hs)

theorem Rep.allocS {w0:World}{X:Ent}{w:World}{a:Act}{σ:SState}{env:List D}{ρ:Rho}(h:Rep w0 X w a σ env ρ)(o:Obj):Rep w0 X (w.alloc o) a σ env (ρ.withBlock w.heap.size):=by
 refine h.move (Keeps.alloc h.cells o) (ρ.withBlock_more _ _) ?_ ?_ ?_ rfl ⟨rfl,Nat.le_refl _⟩ rfl (by simp) ?_ fun b i hs=>hs.elim .inl fun e=>.inr (by have:=h.grown;omega)
 ·intro o' x b h1 h2
  exact heapOld w o b (h.own o' x b h1 h2).2
 ·intro o' x b off h1 h2 h3
  rcases h3 with h3 | h3
  ·exact h3
  ·have:=(h.own o' x b h1 h2).2;omega
 ·intro b i hs
  rcases hs with hs | hs
  ·have:=h.cells b i hs;simp;omega
  ·simp;omega
 ·intro b h1 _
  have:=h.grown
  exact heapOld w o b (by omega)

def Rho.withObj (ρ:Rho)(o b:Nat)(v:Value):Rho:={ ρ with blk:=fun x=>if x=o then b else ρ.blk x,val:=fun x=>if x=o then v else ρ.val x }

theorem Rho.withObj_more (ρ:Rho)(o b:Nat)(v:Value):ρ.More (ρ.withObj o b v) (·=o):=
 ⟨⟨fun x hx=>by simp[Rho.withObj,hx],fun x hx=>by simp[Rho.withObj,hx],Sets.le_refl _⟩,fun _=>rfl,fun _=>rfl⟩

def SState.avoids (σ:SState)(o:Nat):Prop:=(∀t,(σ.tmp t).avoids o=true)∧∀o' x,σ.obj o'=some x→x.avoids o=true

theorem Rep.withObj {w0:World} {X:Ent} {w w':World} {a:Act} {σ:SState} {env:List D} {ρ:Rho} (h:Rep w0 X w a σ env ρ) {o:Nat} (ho:o<σ.mem.length) (hfree:σ.obj o=none) (hav:σ.avoids o) {v:Value} {x:SObj}
  (hk:Keeps ρ.S w w') (hb:∀b,b<w.heap.size→w'.heap[b]? = w.heap[b]?) (hos:w'.os=w.os) (ht:TL w' w) (hout:w'.output=w.output) (hsz:w.heap.size<w'.heap.size)
  (hok:ObjOk w' (ρ.withObj o w.heap.size v) env o x) (hblk:∀b,objBlk (ρ.withObj o w.heap.size v) o x b→b=w.heap.size):Rep w0 X w' a (σ.setObj o (some x)) env (ρ.withObj o w.heap.size v):=by
 have hm:=ρ.withObj_more o w.heap.size v
 have hne:∀o' y,σ.obj o'=some y→o'≠o:=fun o' y hy e=>by rw[e,hfree] at hy;cases hy
 refine⟨by rw[SState.tmps_setObj];exact h.size,fun t=>?_,?_,?_,?_,fun b i hs=>Nat.lt_of_lt_of_le (h.cells b i hs) (Nat.le_of_lt hsz),hos.trans h.os,ht.trans h.tape,hout.trans h.output,Nat.le_trans h.grown (Nat.le_of_lt hsz),?_,h.sub,h.new,h.nod,h.hold⟩
 ·rw[SState.tmp_setObj];exact(h.tmps t).keep hk hm fun o' e=>by subst e;exact hav.1 t
 ·intro o' y hy
  rw[SState.obj_setObj ho] at hy
  by_cases e:o'=o
  ·subst e;simp at hy;subst hy;exact hok
  ·simp[e] at hy
   refine(h.objs o' y hy).keep hk hm e (fun o'' e'=>by subst e';exact hav.2 o' y hy) (fun b hb'=>hb b (h.own o' y b hy hb').2) fun _ _ _ hs=>hs
 ·intro o1 o2 y1 y2 b h1 h2 h3 h4
  rw[SState.obj_setObj ho] at h1 h2
  by_cases e1:o1=o <;> by_cases e2:o2=o
  ·rw[e1,e2]
  ·subst e1;simp at h1;subst h1
   simp[e2] at h2
   rw[objBlk_more hm e2 (h.objs _ _ h2)] at h4
   have:=hblk b h3
   have:=(h.own o2 y2 b h2 h4).2
   omega
  ·subst e2;simp at h2;subst h2
   simp[e1] at h1
   rw[objBlk_more hm e1 (h.objs _ _ h1)] at h3
   have:=hblk b h4
   have:=(h.own o1 y1 b h1 h3).2
   omega
  ·simp[e1] at h1;simp[e2] at h2
   rw[objBlk_more hm e1 (h.objs _ _ h1)] at h3
   rw[objBlk_more hm e2 (h.objs _ _ h2)] at h4
   exact h.inj o1 o2 y1 y2 b h1 h2 h3 h4
 ·intro o' y b hy hb'
  rw[SState.obj_setObj ho] at hy
  by_cases e:o'=o
  ·subst e;simp at hy;subst hy
   have:=hblk b hb'
   have:=h.grown
   exact⟨.inr (.inl (by omega)),by omega⟩
  ·simp[e] at hy
   rw[objBlk_more hm e (h.objs _ _ hy)] at hb'
   obtain⟨h1,h2⟩:=h.own o' y b hy hb'
   exact⟨h1,by omega⟩
 ·intro b h1 h2
  exact(hb b (by have:=h.grown;omega)).trans (h.old b h1 h2)

theorem Rep.setBlock {w0:World} {X:Ent} {w w':World} {a:Act} {σ:SState} {env:List D} {ρ:Rho} (h:Rep w0 X w a σ env ρ) {o:Nat} (ho:o=HID∨o<σ.mem.length) {x x':SObj} (hx:σ.obj o=some x) {b0:Nat} (hb0:objBlk ρ o x b0) (hro:x.ro=false) (hb1:∀b,objBlk ρ o x' b→objBlk ρ o x b)
  (hfree:∀off,¬ρ.S b0 off) (hb:∀b,b≠b0→w'.heap[b]? = w.heap[b]?) (hos:w'.os=w.os) (ht:TL w' w) (hout:w'.output=w.output) (hsz:w'.heap.size=w.heap.size)
  (hok:Keeps ρ.S w w'→ObjOk w' ρ env o x'):Rep w0 X w' a (σ.setObj o (some x')) env ρ:=by
 have hk:Keeps ρ.S w w':=fun b i hs=>World.cell?_of_block (a:=⟨b,i,none⟩) (hb b fun e=>by subst e;exact hfree i hs)
 have hm:=Rho.More.refl ρ fun _=>False
 have hown:∀b,objBlk ρ o x b→(w0.heap.size≤b∨X.may b)∧b<w.heap.size:=fun b hb=>by
  have:=h.own o x b hx hb
  rw[hro] at this
  exact⟨this.1.resolve_left (by simp),this.2⟩
 refine⟨by rw[SState.tmps_setObj];exact h.size,fun t=>by rw[SState.tmp_setObj];exact(h.tmps t).keep hk hm fun _ hf=>hf.elim,?_,?_,?_,fun b i hs=>by rw[hsz];exact h.cells b i hs,hos.trans h.os,ht.trans h.tape,hout.trans h.output,by rw[hsz];exact h.grown,?_,h.sub,h.new,h.nod,h.hold⟩
 ·intro o' y hy
  rw[SState.obj_setObj' ho] at hy
  by_cases e:o'=o
  ·subst e;simp at hy;subst hy;exact hok hk
  ·simp[e] at hy
   refine(h.objs o' y hy).keep hk hm id (fun _ hf=>hf.elim) (fun b hb'=>hb b fun e'=>e ?_) fun _ _ _ hs=>hs
   subst e'
   exact h.inj o' o y x b hy hx hb' hb0
 ·intro o1 o2 y1 y2 b h1 h2 h3 h4
  rw[SState.obj_setObj' ho] at h1 h2
  by_cases e1:o1=o <;> by_cases e2:o2=o
  ·rw[e1,e2]
  ·subst e1;simp at h1;subst h1
   simp[e2] at h2
   exact h.inj o1 o2 x y2 b hx h2 (hb1 b h3) h4
  ·subst e2;simp at h2;subst h2
   simp[e1] at h1
   exact h.inj o1 o2 y1 x b h1 hx h3 (hb1 b h4)
  ·simp[e1] at h1;simp[e2] at h2
   exact h.inj o1 o2 y1 y2 b h1 h2 h3 h4
 ·intro o' y b hy hb'
  rw[SState.obj_setObj' ho] at hy
  rw[hsz]
  by_cases e:o'=o
  ·subst e;simp at hy;subst hy
   exact⟨.inr (hown b (hb1 b hb')).1,(hown b (hb1 b hb')).2⟩
  ·simp[e] at hy
   exact h.own o' y b hy hb'
 ·intro b h1 h2
  have hne:b≠b0:=fun e=>by
   subst e
   rcases(hown b hb0).1 with h3 | h3
   ·omega
   ·exact h2 h3
  exact(hb b hne).trans (h.old b h1 h2)

theorem Rep.setStore {w0:World} {X:Ent} {w w':World} {a:Act} {σ:SState} {env:List D} {ρ:Rho} (h:Rep w0 X w a σ env ρ) {cf:StCfg} {x x':E} (hx:σ.obj HID=some (.store cf x)) (hro:cf.ro=false) {S':Sets} {foot':Nat→Prop} {bs':List D} (he:x'.eval env=some (.st bs')) (hst:StOk w' S' foot' bs')
  (hk:Keeps ρ.S w w') (hS:ρ.S≤S') (hos:w'.os=w.os) (ht:TL w' w) (hout:w'.output=w.output) (hsz:w.heap.size≤w'.heap.size) (hb:∀b,b<w.heap.size→¬ρ.foot b→w'.heap[b]? = w.heap[b]?)
  (hf:∀b,foot' b→(ρ.foot b∨w.heap.size≤b)∧b<w'.heap.size) (hS2:∀b o,S' b o→ρ.S b o∨ρ.foot b∨w.heap.size≤b) (hS3:∀b o,S' b o→b<w'.heap.size) :
  Rep w0 X w' a (σ.setObj HID (some (.store cf x'))) env { ρ with S:=S',foot:=foot' }:=by
 have hle:ρ.Le { ρ with S:=S',foot:=foot' } (fun _=>False):=⟨fun _ _=>rfl,fun _ _=>rfl,hS⟩
 have hfown:∀b,ρ.foot b→(w0.heap.size≤b∨X.may b)∧b<w.heap.size:=fun b hb=>by
  have:=h.own HID _ b hx hb
  simp only[SObj.ro,hro] at this
  exact⟨this.1.resolve_left (by simp),this.2⟩
 have hnf:∀o y b,o≠HID→σ.obj o=some y→objBlk ρ o y b→¬ρ.foot b:=fun o y b hne hy hb hf=>hne (h.inj o HID y _ b hy hx hb hf)
 have hblk:∀o y,o≠HID→σ.obj o=some y→objBlk { ρ with S:=S',foot:=foot' } o y=objBlk ρ o y:=fun o y hne hy=>objBlk_le hle (fun e=>absurd e hne) (fun hf=>hf) (h.objs o y hy)
 refine⟨by rw[SState.tmps_setObj];exact h.size,fun t=>by rw[SState.tmp_setObj];exact(h.tmps t).keepL hk hle fun _ hf=>hf.elim,fun o y hy=>?_,fun o1 o2 y1 y2 b h1 h2 h3 h4=>?_,fun o y b hy hb'=>?_,hS3,hos.trans h.os,ht.trans h.tape,hout.trans h.output,Nat.le_trans h.grown hsz,fun b h1 h2=>?_,Sets.le_trans h.sub hS,fun b o hs=>?_,h.nod,h.hold⟩
 ·rw[SState.obj_setObj' (.inl rfl)] at hy
  by_cases e:o=HID
  ·subst e;simp at hy;subst hy;exact⟨bs',he,hst,rfl⟩
  ·simp[e] at hy
   refine(h.objs o y hy).keepL hk hle (fun e'=>absurd e' e) (fun hf=>hf) (fun _ hf=>hf.elim) (fun b hb'=>hb b (h.own o y b hy hb').2 (hnf o y b e hy hb')) fun b off hb' hs=>?_
   rcases hS2 b off hs with h1 | h1 | h1
   ·exact h1
   ·exact absurd h1 (hnf o y b e hy hb')
   ·have:=(h.own o y b hy hb').2;omega
 ·rw[SState.obj_setObj' (.inl rfl)] at h1 h2
  have cross:∀{o:Nat} {y:SObj} {b:Nat},o≠HID→σ.obj o=some y→objBlk { ρ with S:=S',foot:=foot' } o y b→foot' b→False:=by
   intro o y b hne hy hb' hf'
   rw[hblk o y hne hy] at hb'
   rcases(hf b hf').1 with h5 | h5
   ·exact hnf o y b hne hy hb' h5
   ·have:=(h.own o y b hy hb').2;omega
  by_cases e1:o1=HID <;> by_cases e2:o2=HID
  ·rw[e1,e2]
  ·subst e1;simp at h1;subst h1
   simp[e2] at h2
   exact(cross e2 h2 h4 h3).elim
  ·subst e2;simp at h2;subst h2
   simp[e1] at h1
   exact(cross e1 h1 h3 h4).elim
  ·simp[e1] at h1;simp[e2] at h2
   rw[hblk o1 y1 e1 h1] at h3
   rw[hblk o2 y2 e2 h2] at h4
   exact h.inj o1 o2 y1 y2 b h1 h2 h3 h4
 ·rw[SState.obj_setObj' (.inl rfl)] at hy
  by_cases e:o=HID
  ·subst e;simp at hy;subst hy
   obtain⟨h1,h2⟩:=hf b hb'
   refine⟨.inr ?_,h2⟩
   rcases h1 with h1 | h1
   ·exact(hfown b h1).1
   ·exact .inl (Nat.le_trans h.grown h1)
  ·simp[e] at hy
   rw[hblk o y e hy] at hb'
   obtain⟨h1,h2⟩:=h.own o y b hy hb'
   exact⟨h1,by omega⟩
 ·refine(hb b (by have:=h.grown;omega) fun hf=>?_).trans (h.old b h1 h2)
  rcases(hfown b hf).1 with h3 | h3
  ·omega
  ·exact h2 h3
 ·rcases hS2 b o hs with h1 | h1 | h1
  ·exact h.new b o h1
  ·rcases(hfown b h1).1 with h3 | h3
   ·exact .inr (.inl h3)
   ·exact .inr (.inr h3)
  ·exact .inr (.inl (Nat.le_trans h.grown h1))

end
end Go.Am

/-
 One operation,symbolically: what it yields,which object it changes,what it binds.
-/
namespace Go.Am
noncomputable section

inductive Out where
 | ret (d:D)
 | pan (d:D)

def Out.ends (w':World)(S':Sets)(v:Value):Out→Ending→Prop
 | .ret d,e=>e=.returned v∧RdD w' S' v d
 | .pan d,e=>e=.panicked [{ v,recovered:=false }]∧RdD w' S' v d

def HoldOk (w:World)(S:Sets)(foot:Nat→Prop):Prop:=∀l rec,S.hold l=some rec→w.heap[l]? = some (.loop rec)∧¬foot l

theorem Rep.holdOk {w0 w:World}{X:Ent}{a:Act}{σ:SState}{env:List D}{ρ:Rho}(h:Rep w0 X w a σ env ρ){cf:StCfg}{x:E}(hob:σ.obj HID=some (.store cf x)):HoldOk w ρ.S ρ.foot:=by
 intro l rec hl
 have hl':X.S.hold l=some rec:=by rw[←h.sub.hold];exact hl
 obtain⟨h1,h2,h3⟩:=h.hold l rec hl'
 have hlt:l<w0.heap.size:=(Array.getElem?_eq_some_iff.1 h1).1
 refine⟨(h.old l hlt h2).trans h1,fun hf=>?_⟩
 rcases(h.own HID _ l hob hf).1 with g | g | g
 ·exact h3 g.2
 ·omega
 ·exact h2 g

def FSpecO (P:Program)(f:FuncId)(h:D)(ds:List D)(o:Out):Prop:=
 ∀(w:World) (S:Sets) (foot:Nat→Prop) (bs:List D) (vs:Array Value),h=.st bs→StOk w S foot bs→HoldOk w S foot→(∀b,foot b→b<w.heap.size)→(∀b o,S b o→b<w.heap.size)→vs.size=ds.length→(∀(i:Nat) (v:Value) (x:D),vs[i]? = some v→ds[i]? = some x→RdD w S v x) →
  Calls P f vs w fun e w'=>∃(v:Value) (S':Sets),o.ends w' S' v e∧Blw w.heap.size w w'∧S≤S'∧S'.n=S.n∧(∀b o,S' b o→S b o∨w.heap.size≤b)∧∀b o,S' b o→b<w'.heap.size

abbrev FSpecR (P:Program)(f:FuncId)(h:D)(ds:List D)(d:D):Prop:=FSpecO P f h ds (.ret d)

theorem FSpecO.ofNone {P:Program}{f:FuncId}{ds:List D}{o:Out}(h:FSpecO P f (.st []) ds o)(hds:noids ds=true)(bs:List D):FSpecO P f (.st bs) ds o:=by
 intro w S foot bs0 vs hb hst hhold hfl hS hvl hrd
 let S0:Sets:={ mem:=S.mem,loc:=fun _=>0,n:=0,cap:=fun _=>0 }
 have hst0:StOk w S0 (fun _=>False) []:=⟨rfl,fun i e sz cs hi=>by simp at hi,fun b off hf=>hf.elim,fun i kvs hi=>by simp at hi,fun i j x y hi=>by simp at hi,fun i z hi=>by simp at hi⟩
 refine(h w S0 (fun _=>False) [] vs rfl hst0 (fun l rec hl=>by cases hl) (fun _ hf=>hf.elim) hS hvl fun i v x hv hx=>(hrd i v x hv hx).free (fun _ _ h=>h) (noids_get hds hx)).mono ?_
 rintro e w' ⟨v,S',hends,hb,hle,hsn,hnew,hlt⟩
 refine⟨v,{ S with mem:=S'.mem },?_,hb,⟨hle.mem,Nat.le_refl _,fun _ _=>rfl,fun _ _=>rfl,rfl,fun _ _=>rfl⟩,rfl,hnew,hlt⟩
 have hh:∀l,S'.hold l=none:=fun l=>by rw[hle.hold]
 cases o with
 | ret d=>exact⟨hends.1,hends.2.ofNone (fun _ _ h=>h) hsn hh⟩
 | pan d=>exact⟨hends.1,hends.2.ofNone (fun _ _ h=>h) hsn hh⟩

def FSpecWO (P:Program)(f:FuncId)(h:D)(ds:List D)(o:Out)(h':D):Prop:=
 ∀(w:World) (S:Sets) (foot:Nat→Prop) (bs:List D) (vs:Array Value),h=.st bs→StOk w S foot bs→HoldOk w S foot→(∀b,foot b→b<w.heap.size)→(∀b o,S b o→b<w.heap.size)→vs.size=ds.length→(∀(i:Nat) (v:Value) (x:D),vs[i]? = some v→ds[i]? = some x→RdD w S v x) →
  Calls P f vs w fun e w'=>∃(v:Value) (S':Sets) (foot':Nat→Prop) (bs':List D),o.ends w' S' v e∧h'=.st bs'∧StOk w' S' foot' bs'∧Keeps S w w'∧S≤S'∧w'.os=w.os∧TL w' w∧w'.output=w.output∧w.heap.size≤w'.heap.size ∧
   (∀b,b<w.heap.size→¬foot b→w'.heap[b]? = w.heap[b]?)∧(∀b,foot' b→(foot b∨w.heap.size≤b)∧b<w'.heap.size)∧(∀b o,S' b o→S b o∨foot b∨w.heap.size≤b)∧∀b o,S' b o→b<w'.heap.size

abbrev FSpecW (P:Program)(f:FuncId)(h:D)(ds:List D)(d h':D):Prop:=FSpecWO P f h ds (.ret d) h'

def YSpecB (P:Program)(y:D)(st:D)(ds:List D)(b:Bool)(st':D):Prop:=
 ∀(w:World) (S:Sets) (foot:Nat→Prop) (bs:List D) (vs:Array Value) (yv:Value),st=.st bs→StOk w S foot bs→HoldOk w S foot→(∀b,foot b→b<w.heap.size)→(∀b o,S b o→b<w.heap.size)→RdD w S yv y→vs.size=ds.length→(∀(i:Nat) (v:Value) (x:D),vs[i]? = some v→ds[i]? = some x→RdD w S v x) →
  ∃(l:Nat) (f:FuncId) (tmps:Array Value) (assign body:Code),yv=.func (.yield l) #[] #[]∧(Instr.yield l vs).run P w=.ok (.round l f tmps assign body) w∧RoundIn Fence.wide 0 P l f tmps assign body w fun e w'=>∃(S':Sets) (foot':Nat→Prop) (bs':List D),e=.returned (.bool b)∧st'=.st bs'∧StOk w' S' foot' bs'∧Keeps S w w'∧S≤S'∧w'.os=w.os∧TL w' w∧w'.output=w.output∧w.heap.size≤w'.heap.size ∧
   (∀b,b<w.heap.size→¬foot b→w'.heap[b]? = w.heap[b]?)∧(∀b,foot' b→(foot b∨w.heap.size≤b)∧b<w'.heap.size)∧(∀b o,S' b o→S b o∨foot b∨w.heap.size≤b)∧∀b o,S' b o→b<w'.heap.size

abbrev YSpec (P:Program)(y:D)(st:D)(ds:List D)(st':D):Prop:=YSpecB P y st ds true st'

inductive Bind where
 | ev (x:E)
 | call (act:List (E×Bool)) (f:FuncId) (h:E) (args:List E) (rs:List Bool)
 | wcall (act:List (E×Bool)) (f:FuncId) (h:E) (args:List E) (rs:List Bool)
 | callv (act:List (E×Bool)) (x h:E) (args:List E) (rs:List Bool)
 | wcallv (act:List (E×Bool)) (x h:E) (args:List E) (rs:List Bool)
 deriving Inhabited

def fitsAll:List Bool→List D→Bool
 | [],[]=>true
 | b :: r,d :: s=>(!b||d.one)&&fitsAll r s
 | _,_=>false

def D.fits (rs:List Bool)(d:D):Bool:=
 match rs with
 | [b]=>!b||d.one
 | rs=>match d with
  | .tup ds=>fitsAll rs ds
  | _=>false

abbrev E.noid (x:E):E:=.m4 .noids x .nil .nil .nil

def evalAll (env:List D):List E→Option (List D)
 | []=>some []
 | x :: r=>(x.eval env).bind fun d=>(evalAll env r).map (d :: ·)

def callable (P:Program)(f:FuncId):Bool:=
 match P.funcs[f]? with
 | some fn => !(fn.name == "runtime.NumGoroutine") && fn.body.isSome
 | none=>false

def CallV (P:Program)(xd st:D)(ds:List D)(d h':D):Prop:=
 match xd with
 | .fn f us cs=>callable P f=true∧FSpecW P f st (us++ds++cs) d h'
 | .yl l rec sl caps=>d=.bool true∧YSpec P (.yl l rec sl caps) st ds h'
 | .ylb i rec sl caps=>∃b,d=.bool b∧YSpecB P (.ylb i rec sl caps) st ds b h'
 | _=>False

def BindOk (P:Program)(env:List D)(ix:Nat):Option Bind→Prop
 | none=>True
 | some (.ev x)=>∃d,x.eval env=some d∧env[ix]? = some d
 | some (.call act f h args rs)=>∃d,env[ix]? = some d∧(actHolds env act→∃st ds,h.eval env=some st∧evalAll env args=some ds∧FSpecR P f st ds d∧d.fits rs=true)
 | some (.wcall act f h args rs)=>∃st d h',h.eval env=some st∧env[ix]? = some (.tup [d,h'])∧(actHolds env act→∃ds,evalAll env args=some ds∧FSpecW P f st ds d h'∧d.fits rs=true)∧(¬actHolds env act→h'=st)
 | some (.callv act x h args rs)=>∃d,env[ix]? = some d∧(actHolds env act→∃f us cs st ds,x.eval env=some (.fn f us cs)∧callable P f=true∧h.eval env=some st∧evalAll env args=some ds∧FSpecR P f st (us++ds++cs) d∧d.fits rs=true)
 | some (.wcallv act x h args rs)=>∃st d h',h.eval env=some st∧env[ix]? = some (.tup [d,h'])∧(actHolds env act→∃xd ds,x.eval env=some xd∧evalAll env args=some ds∧CallV P xd st ds d h'∧d.fits rs=true)∧(¬actHolds env act→h'=st)

structure LRes where
 val:SV:=.junk
 upd:Option (Nat×SObj):=none
 bind:Option Bind:=none
 deriving Inhabited

/-! ## types -/

def aggT (P:Program)(t:TypeId):Option Bool:=(P.underlying t).map fun | .struct _=>true | .array _ _=>true | _=>false
def szT (P:Program)(t:TypeId):Option Nat:=(P.info? t).map (·.size)

theorem run_isAgg {P:Program}{t:TypeId}{b:Bool}(h:aggT P t=some b)(w:World):(isAgg t).run P w=.ok b w:=by
 unfold aggT at h
 cases hu:P.underlying t with
 | none=>simp[hu] at h
 | some d=>
  simp only[hu,Option.map_some,Option.some.injEq] at h
  unfold isAgg
  rw[Sem.run_bind,run_underlying hu w]
  subst h
  cases d <;> rfl

theorem run_sizeOf {P:Program}{t:TypeId}{n:Nat}(h:szT P t=some n)(w:World):(sizeOf t).run P w=.ok n w:=by
 unfold szT at h
 cases hi:P.info? t with
 | none=>simp[hi] at h
 | some i=>simp[hi] at h;simp[sizeOf,typeInfo,hi,h]

theorem run_zeroValue {P:Program}{t:TypeId}{z:Value}(h:(P.info? t).bind (·.zero)=some z)(w:World):(zeroValue t).run P w=.ok z w:=by
 cases hi:P.info? t with
 | none=>simp[hi] at h
 | some i=>simp[hi] at h;simp[zeroValue,typeInfo,hi,h]

theorem addr_add (b off j:Nat):(⟨b,off,none⟩:Addr).add j=⟨b,off+j,none⟩:=by
 unfold Addr.add;split <;> simp_all

/-! ## constants -/

def D.ofCells (nz:Bool):List Value→Option (List D)
 | []=>some []
 | y :: r=>if plain y then(D.ofCells nz r).map (D.v y :: ·) else match y with
  | .slice none 0 0=>(D.ofCells nz r).map ((if nz then .snil else .lst []) :: ·)
  | _=>none

def D.ofVal (y:Value):Option D:=
 match y with
 | .agg cs=>(D.ofCells false cs.toList).map .agg
 | y=>match D.ofCells false [y] with
  | some [d]=>some d
  | _=>none

theorem D.ofCells_rd {w:World}{S:Sets}{nz:Bool}:∀{l:List Value} {ds:List D},D.ofCells nz l=some ds→l.length=ds.length∧∀(i:Nat) (v:Value) (d:D),l[i]? = some v→ds[i]? = some d→RdD w S v d∧d.one=true
 | [],ds,h=>by simp[D.ofCells] at h;subst h;simp
 | y :: r,ds,h=>by
  simp only[D.ofCells] at h
  split at h
  ·rename_i hp
   obtain⟨ds',h1,rfl⟩:=Option.map_eq_some_iff.1 h
   obtain⟨hl,hr⟩:=D.ofCells_rd h1
   refine⟨by simp[hl],fun i u d hu hd=>?_⟩
   cases i with
   | zero=>simp at hu hd;subst hu hd;exact⟨.v hp,rfl⟩
   | succ i=>exact hr i u d (by simpa using hu) (by simpa using hd)
  ·split at h
   ·obtain⟨ds',h1,rfl⟩:=Option.map_eq_some_iff.1 h
    obtain⟨hl,hr⟩:=D.ofCells_rd h1
    refine⟨by simp[hl],fun i u d hu hd=>?_⟩
    cases i with
    | zero=>
     simp only[List.getElem?_cons_zero,Option.some.injEq] at hu hd
     subst hu hd
     cases nz
     ·exact⟨.nil,rfl⟩
     ·exact⟨.snil,rfl⟩
    | succ i=>exact hr i u d (by simpa using hu) (by simpa using hd)
   ·cases h

theorem D.ofVal_rd {w:World}{S:Sets}{v:Value}{d:D}(h:D.ofVal v=some d):RdD w S v d:=by
 have one:∀{v:Value} {d:D},(match D.ofCells false [v] with | some [d]=>some d | _=>none)=some d→RdD w S v d:=by
  intro v d h
  split at h
  ·rename_i d' hd'
   cases h
   exact((D.ofCells_rd (w:=w) (S:=S) hd').2 0 v d rfl rfl).1
  ·cases h
 cases v with
 | agg cs=>
  simp only[D.ofVal] at h
  obtain⟨ds,h1,rfl⟩:=Option.map_eq_some_iff.1 h
  obtain⟨hl,hr⟩:=D.ofCells_rd (w:=w) (S:=S) h1
  refine .agg (by simpa using hl) (fun i d hd=>?_) (fun i v d hv hd=>(hr i v d (by simpa using hv) hd).1)
  have hi:i<cs.toList.length:=by rw[hl];exact(List.getElem?_eq_some_iff.1 hd).1
  exact(hr i _ d (List.getElem?_eq_getElem hi) hd).2
 | _=>exact one h

def constSV (v:Value):SV:=match D.ofVal v with | some d=>.e (.const d) d.one | none=>.junk

theorem constSV_rd {w:World}{ρ:Rho}{env:List D}(v:Value):SRd w ρ env v (constSV v):=by
 unfold constSV
 split
 ·rename_i d hd;exact .e rfl (D.ofVal_rd hd) id
 ·exact .junk

/-! ## from symbolic values to expressions,and to cells -/

mutual
def SV.toE:SV→Option E
 | .e x _=>some x
 | .own x _=>some x
 | .func (.func f) []=>some (.const (.fn f [] []))
 | .agg cs=>SV.toEs cs
 | .tup cs=>SV.toTs cs
 | _=>none
def SV.toEs:List SV→Option E
 | []=>some .nil
 | s :: r=>match s.toE,SV.toEs r with | some x,some y=>some (.cons x y) | _,_=>none
def SV.toTs:List SV→Option E
 | []=>some .tnil
 | s :: r=>match s.toE,SV.toTs r with | some x,some y=>some (.tcons x y) | _,_=>none
end

theorem RdD.one_of {w:World}{S:Sets}{v:Value}{d:D}(h:RdD w S v d)(hv:v.oneCell'=true):d.one=true:=by
 cases h <;> first | rfl | simp[Value.oneCell'] at hv

theorem D.cells_one {d:D}(h:d.one=true):d.cells=[d]:=by cases d <;> first | rfl | simp[D.one] at h

theorem D.cons_one {d:D}(h:d.one=true)(cs:List D):D.cons d (.agg cs)=some (.agg (d :: cs)):=by
 cases d <;> first | rfl | simp[D.one] at h

mutual
theorem SV.toE_rd {w:World}{ρ:Rho}{env:List D}:∀{sv:SV} {x:E} {v:Value},sv.toE=some x→SRd w ρ env v sv→∃d,x.eval env=some d∧RdD w ρ.S v d
 | .e x s,y,v,h,hr=>by
  simp[SV.toE] at h;subst h
  cases hr with | e hx hd _=>exact⟨_,hx,hd⟩
 | .own x k,y,v,h,hr=>by
  simp[SV.toE] at h;subst h
  cases hr with | own hx hd _=>exact⟨_,hx,hd⟩
 | .agg cs,y,v,h,hr=>by
  simp only[SV.toE] at h
  cases hr with
  | @agg vs _ hl ho hh=>
   obtain⟨ds,he,hdl,hd⟩:=SV.toEs_rd (vs:=vs.toList) h (by simpa using hl) (fun i v hv=>ho i v (by simpa using hv)) (fun i v c hv hc=>hh i v c (by simpa using hv) hc)
   refine⟨_,he,.agg (by simpa using hdl) (fun i d hd'=>?_) fun i v d hv hd'=>(hd i v d (by simpa using hv) hd').1⟩
   have hi:i<vs.toList.length:=by rw[hdl];exact(List.getElem?_eq_some_iff.1 hd').1
   exact(hd i _ d (List.getElem?_eq_getElem hi) hd').2
 | .tup cs,y,v,h,hr=>by
  simp only[SV.toE] at h
  cases hr with
  | @tup vs _ hl hh=>
   obtain⟨ds,he,hdl,hd⟩:=SV.toTs_rd (vs:=vs.toList) h (by simpa using hl) (fun i v c hv hc=>hh i v c (by simpa using hv) hc)
   exact⟨_,he,.tup (by simpa using hdl) fun i v d hv hd'=>hd i v d (by simpa using hv) hd'⟩
 | .junk,_,_,h,_ | .addr _ _,_,_,h,_ | .eaddr _ _ _ _,_,_,h,_ | .iptr _ _,_,_,h,_ | .slc _,_,_,h,_ | .cond _ _,_,_,h,_=>by simp[SV.toE] at h
 | .func fn cs,y,v,h,hr=>by
  obtain⟨vs,rfl,hl,_⟩:=hr.func_inv
  cases fn with
  | func f=>
   cases cs with
   | nil=>
    simp only[SV.toE] at h
    cases h
    have:vs=#[]:=by simpa using hl
    subst this
    exact⟨_,rfl,.fn rfl rfl (by simp) (by simp)⟩
   | cons _ _=>simp[SV.toE] at h
  | _=>simp[SV.toE] at h
theorem SV.toEs_rd {w:World}{ρ:Rho}{env:List D}:∀{cs:List SV} {x:E} {vs:List Value},SV.toEs cs=some x→vs.length=cs.length→(∀(i:Nat) (v:Value),vs[i]? = some v→v.oneCell'=true) →
  (∀(i:Nat) (v:Value) (c:SV),vs[i]? = some v→cs[i]? = some c→SRd w ρ env v c)→∃ds,x.eval env=some (.agg ds)∧vs.length=ds.length∧∀(i:Nat) (v:Value) (d:D),vs[i]? = some v→ds[i]? = some d→RdD w ρ.S v d∧d.one=true
 | [],x,vs,h,hl,_,_=>by
  simp[SV.toEs] at h;subst h
  have:vs=[]:=List.eq_nil_of_length_eq_zero (by simpa using hl)
  subst this
  exact⟨[],rfl,rfl,by simp⟩
 | s :: r,x,vs,h,hl,ho,hh=>by
  match vs,hl with
  | v :: vs,hl=>
   simp only[SV.toEs] at h
   split at h
   ·rename_i y z hy hz
    cases h
    obtain⟨d,hd,hrd⟩:=SV.toE_rd hy (hh 0 v s rfl rfl)
    obtain⟨ds,he,hdl,hds⟩:=SV.toEs_rd (vs:=vs) hz (by simpa using hl) (fun i v hv=>ho (i+1) v (by simpa using hv)) (fun i v c hv hc=>hh (i+1) v c (by simpa using hv) (by simpa using hc))
    have h1:=hrd.one_of (ho 0 v rfl)
    refine⟨d :: ds,by simp[E.eval,hd,he,D.cons_one h1],by simp[hdl],fun i v' d' hv hd'=>?_⟩
    cases i with
    | zero=>simp at hv hd';subst hv hd';exact⟨hrd,h1⟩
    | succ i=>exact hds i v' d' (by simpa using hv) (by simpa using hd')
   ·cases h
theorem SV.toTs_rd {w:World}{ρ:Rho}{env:List D}:∀{cs:List SV} {x:E} {vs:List Value},SV.toTs cs=some x→vs.length=cs.length →
  (∀(i:Nat) (v:Value) (c:SV),vs[i]? = some v→cs[i]? = some c→SRd w ρ env v c)→∃ds,x.eval env=some (.tup ds)∧vs.length=ds.length∧∀(i:Nat) (v:Value) (d:D),vs[i]? = some v→ds[i]? = some d→RdD w ρ.S v d
 | [],x,vs,h,hl,_=>by
  simp[SV.toTs] at h;subst h
  have:vs=[]:=List.eq_nil_of_length_eq_zero (by simpa using hl)
  subst this
  exact⟨[],rfl,rfl,by simp⟩
 | s :: r,x,vs,h,hl,hh=>by
  match vs,hl with
  | v :: vs,hl=>
   simp only[SV.toTs] at h
   split at h
   ·rename_i y z hy hz
    cases h
    obtain⟨d,hd,hrd⟩:=SV.toE_rd hy (hh 0 v s rfl rfl)
    obtain⟨ds,he,hdl,hds⟩:=SV.toTs_rd (vs:=vs) hz (by simpa using hl) (fun i v c hv hc=>hh (i+1) v c (by simpa using hv) (by simpa using hc))
    refine⟨d :: ds,by simp[E.eval,hd,he,D.tcons],by simp[hdl],fun i v' d' hv hd'=>?_⟩
    cases i with
    | zero=>simp at hv hd';subst hv hd';exact hrd
    | succ i=>exact hds i v' d' (by simpa using hv) (by simpa using hd')
   ·cases h
end

def SV.split (n ix:Nat):SV→Option (List SV×Option Bind)
 | .agg cs=>if cs.length=n then some (cs,none) else none
 | .e (.const (.agg ds)) _=>if ds.length=n∧ds.all (·.one)=true then some (ds.map fun d=>.e (.const d) true,none) else none
 | .e x _=>some ((List.range n).map fun i=>.e (.cell i (.sym ix)) true,some (.ev (.aggN n x)))
 | _=>none

theorem SV.split_rd {P:Program}{w:World}{ρ:Rho}{env:List D}{n ix:Nat}{sv:SV}{cs:List SV}{b:Option Bind}{v:Value}(h:sv.split n ix=some (cs,b))(hb:BindOk P env ix b)(hr:SRd w ρ env v sv) :
  ∃vs:Array Value,v=.agg vs∧vs.size=n∧cs.length=n∧(∀(i:Nat) (v:Value),vs[i]? = some v→v.oneCell'=true)∧∀(i:Nat) (v:Value) (c:SV),vs[i]? = some v→cs[i]? = some c→SRd w ρ env v c:=by
 unfold SV.split at h
 split at h
 ·rename_i cs'
  split at h
  ·rename_i hl
   cases h
   cases hr with
   | agg hl' ho hh=>exact⟨_,rfl,by omega,hl,ho,hh⟩
  ·cases h
 ·rename_i ds s
  split at h
  ·rename_i hl
   cases h
   cases hr with
   | e hx hd _=>
    simp[E.eval] at hx
    subst hx
    cases hd with
    | agg hl' ho hh=>
     refine⟨_,rfl,by omega,by simp[hl.1],fun i v hv=>?_,fun i v c hv hc=>?_⟩
     ·have hi:i<ds.length:=by rw[←hl'];exact(Array.getElem?_eq_some_iff.1 hv).1
      exact(hh i v _ hv (List.getElem?_eq_getElem hi)).one (ho i _ (List.getElem?_eq_getElem hi))
     ·simp only[List.getElem?_map,Option.map_eq_some_iff] at hc
      obtain⟨d,hd,rfl⟩:=hc
      exact .e rfl (hh i v d hv hd) fun _=>ho i d hd
  ·cases h
 ·rename_i x s hne
  cases h
  obtain⟨d,hd,he⟩:=hb
  cases hr with
  | e hx hrd _=>
   simp only[E.eval,hx,Option.bind_some] at hd
   cases hrd with
   | @agg vs ds hl' ho hh=>
    simp only[D.aggN] at hd
    split at hd
    ·rename_i hl
     cases hd
     refine⟨_,rfl,by omega,by simp,fun i v hv=>?_,fun i v c hv hc=>?_⟩
     ·have hi:i<ds.length:=by rw[←hl'];exact(Array.getElem?_eq_some_iff.1 hv).1
      exact(hh i v _ hv (List.getElem?_eq_getElem hi)).one (ho i _ (List.getElem?_eq_getElem hi))
     ·have hi:i<ds.length:=by rw[←hl'];exact(Array.getElem?_eq_some_iff.1 hv).1
      have hc':c=.e (.cell i (.sym ix)) true:=by
       simp only[List.getElem?_map,Option.map_eq_some_iff] at hc
       obtain⟨j,hj,rfl⟩:=hc
       have:=List.getElem?_eq_some_iff.1 hj
       simp at this
       rw[←this.2]
      subst hc'
      exact .e (d:=ds[i]) (by simp[E.eval,he,D.cell,D.cells,hi]) (hh i v _ hv (List.getElem?_eq_getElem hi)) fun _=>ho i _ (List.getElem?_eq_getElem hi)
    ·cases hd
   | _=>simp[D.aggN] at hd
 ·cases h

end
end Go.Am

/-
 One operation,symbolically,and that the model's own run of it is as the symbolic step says.
-/
namespace Go.Am
noncomputable section

def flatFields (P:Program):Nat→List Field→Option (List Nat)
 | _,[]=>some []
 | i, f :: fs => if f.offset = i ∧ f.name ≠ "_" then (match P.underlying f.type with
  | some (.int _)=>(flatFields P (i+1) fs).map (0 :: ·)
  | some .bool=>(flatFields P (i+1) fs).map (1 :: ·)
  | some .string=>(flatFields P (i+1) fs).map (2 :: ·)
  | _=>none) else none

def flatStruct (P:Program)(t:TypeId):Option (List Nat):=
 match P.underlying t with
 | some (.struct fs)=>if P.stoodInHeld t=false∧P.eqGuardType P.depth t=false then flatFields P 0 fs.toList else none
 | _=>none

def kindOf (P:Program)(t:TypeId):Option Kd:=
 match P.underlying t with
 | some (.int _)=>some .int
 | some .bool=>some .bool
 | some .string=>some .str
 | some (.pointer _)=>some .ptr
 | some (.map _ _)=>some .mp
 | some (.struct _)=>(flatStruct P t).map .agg
 | _=>none

def SV.cellsOf (agg:Bool)(n ix:Nat)(obj:Nat→Option SObj)(sv:SV):Option (List SV×Option Bind):=
 if agg then sv.split n ix else match sv with
  | .e x true=>some ([.e x true],none)
  | .e x false=>some ([.e x true],some (.ev (.scal x)))
  | .slc o=>match obj o with
   | some (.row _ _)=>some ([.slc o],none)
   | _=>none
  | .addr o off=>some ([.addr o off],none)
  | .eaddr o i sz off=>some ([.eaddr o i sz off],none)
  | .iptr x off=>some ([.iptr x off],none)
  | .own x k=>some ([.own x k],none)
  | .func fn cs=>some ([.func fn cs],none)
  | _=>none

def zeroSVs (P:Program)(t:TypeId):Option (List SV):=((P.info? t).bind (·.zero)).map fun z=>z.cells.toList.map constSV

def hOf (obj:Nat→Option SObj):E:=
 match obj HID with
 | some (.store _ h)=>h
 | _=>.const (.st [])

def lload (P:Program)(t:TypeId)(x:SV)(obj:Nat→Option SObj)(ix:Nat):Option LRes:=
 (aggT P t).bind fun agg=>(szT P t).bind fun n=>
 match x with
 | .addr ob off=>match obj ob with
  | some (.box cs)=>if agg then(if off+n≤cs.length then some { val:=.agg ((cs.drop off).take n) } else none) else(cs[off]?).map fun c=>{ val:=c }
  | _=>none
 | .eaddr ob i sz off=>match obj ob with
  | some (.row l sz')=>if sz≠sz' then none else if agg then(if off=0∧n=sz then some { val:=.e (.sym ix) false,bind:=some (.ev (.aggN n (.idx l i))) } else none)
   else some { val:=.e (.sym ix) true,bind:=some (.ev (.cell off (.idx l i))) }
  | _=>none
 | .iptr x off=>if agg then(if off=0 then some { val:=.e (.sym ix) false,bind:=some (.ev (.aggN n x)) } else some { val:=.e (.sym ix) false,bind:=some (.ev (.cells off n x)) })
   else some { val:=.e (.sym ix) true,bind:=some (.ev (.cell off x)) }
 | .e p _=>some { val:=.e (.sym ix) (!agg),bind:=some (.ev (.ld agg n (hOf obj) p)) }
 | _=>none

def lstore (P:Program)(t:TypeId)(x y:SV)(obj:Nat→Option SObj)(ix:Nat):Option LRes:=
 (aggT P t).bind fun agg=>(szT P t).bind fun n=>
 match x with
 | .addr ob off=>match obj ob with
  | some (.box cs)=>(y.cellsOf agg n ix obj).bind fun(ys,b)=>if off+ys.length≤cs.length∧ys.length=n then some { upd:=some (ob,.box (cs.take off++ys++cs.drop (off+ys.length))),bind:=b } else none
  | _=>none
 | .eaddr ob i sz off=>match obj ob with
  | some (.row l sz')=>if sz≠sz' then none else(match agg,y with
   | false,.e y' true=>if n=1 then some { upd:=some (ob,.row (.sym ix) sz'),bind:=some (.ev (.set l i off y')) } else none
   | false,.e y' false=>if n=1 then some { upd:=some (ob,.row (.sym ix) sz'),bind:=some (.ev (.set l i off (.scal y'))) } else none
   | true,y=>y.toE.map fun y'=>{ upd:=some (ob,.row (.sym ix) sz'),bind:=some (.ev (.set l i off (.aggN n y'))) }
   | _,_=>none)
  | _=>none
 | .e p _=>match obj HID,y.toE with
  | some (.store cf h),some y'=>if cf.ro then none else some { upd:=some (HID,.store cf (.sym ix)),bind:=some (.ev (.sto n h p y')) }
  | _,_=>none
 | _=>none

def lfieldAddr (P:Program)(s:TypeId)(x:SV)(f:Nat):Option LRes:=
 match P.underlying s with
 | some (.struct fs)=>(fs[f]?).bind fun fd=>(szT P fd.type).bind fun n=>if n=0 then none else match x with
  | .addr ob off=>some { val:=.addr ob (off+fd.offset) }
  | .eaddr ob i sz off=>some { val:=.eaddr ob i sz (off+fd.offset) }
  | .iptr x off=>some { val:=.iptr x (off+fd.offset) }
  | _=>none
 | _=>none

def lfieldE (P:Program)(s:TypeId)(x:SV)(f ix:Nat):Option LRes:=
 match P.underlying s,x with
 | some (.struct fs),.e p _=>(fs[f]?).bind fun fd=>(szT P fd.type).bind fun n=>if n=0 then none else some { val:=.e (.sym ix) true,bind:=some (.ev (.padd fd.offset p)) }
 | _,_=>none

def lindexAddr (P:Program)(t:TypeId)(x i:SV)(obj:Nat→Option SObj)(ix:Nat):Option LRes:=
 match P.underlying t,i.toE with
 | some (.slice e),some i'=>(szT P e).bind fun n=>match x with
  | .slc ob=>match obj ob with
   | some (.row l sz)=>if sz=n then some { val:=.eaddr ob i' n 0,bind:=some (.ev (.idx l i')) } else none
   | _=>none
  | x=>x.toE.map fun l=>{ val:=.e (.sym ix) true,bind:=some (.ev (.eaddr n l i')) }
 | some (.array len e),some i'=>(szT P e).bind fun n=>x.toE.map fun p=>{ val:=.e (.sym ix) true,bind:=some (.ev (.m4 (.elemA len n) p i' .nil .nil)) }
 | _,_=>none

def lnil (x:SV)(ix:Nat):Option LRes:=
 match x with
 | .addr o off=>some { val:=.addr o off }
 | .eaddr o i sz off=>some { val:=.eaddr o i sz off }
 | .func fn cs=>(match fn with | .method _=>none | _=>some { val:=.func fn cs })
 | .iptr x off=>some { val:=.iptr x off }
 | .e x _=>some { val:=.e (.sym ix) true,bind:=some (.ev (.nn x)) }
 | _=>none

def isNilC:SV→Bool
 | .e (.const (.v (.pointer none))) _=>true
 | _=>false

def isAddr:SV→Bool
 | .addr _ _ | .eaddr _ _ _ _ | .iptr _ _=>true
 | _=>false

def lbin (P:Program)(op:BinOp)(t:TypeId)(x y:SV)(ix:Nat):Option LRes:=
 if kindOf P t=some .ptr∧((isAddr x=true∧isNilC y=true)∨(isNilC x=true∧isAddr y=true)) then
  (match op with
   | .eql=>some { val:=.e (.const (.v (.bool false))) true }
   | .neq=>some { val:=.e (.const (.v (.bool true))) true }
   | _=>none)
 else match kindOf P t,x.toE,y.toE with
 | some kd,some x',some y'=>some { val:=.e (.sym ix) true,bind:=some (.ev (.bin op kd x' y')) }
 | _,_,_=>none

def lun (op:UnOp)(x:SV)(ix:Nat):Option LRes:=x.toE.map fun x'=>{ val:=.e (.sym ix) true,bind:=some (.ev (.un op x')) }

def lconv (P:Program)(src dst:TypeId)(x:SV)(ix:Nat):Option LRes:=
 match P.underlying src,P.underlying dst with
 | some _,some (.int k)=>x.toE.map fun x'=>{ val:=.e (.sym ix) true,bind:=some (.ev (.conv k x')) }
 | _,_=>none

def lextract (x:SV)(i ix:Nat):Option LRes:=
 match x with
 | .tup cs=>(cs[i]?).map fun c=>{ val:=c }
 | .e y _=>some { val:=.e (.sym ix) false,bind:=some (.ev (.tget i y)) }
 | _=>none

def lalloc (P:Program)(t:TypeId)(dst:Option Tmp):Option LRes:=
 match dst,zeroSVs P t with
 | some d,some cs=>some { val:=.addr d 0,upd:=some (d,.box cs) }
 | _,_=>none

def lbox (P:Program)(t:TypeId)(x:SV)(dst:Option Tmp)(obj:Nat→Option SObj)(ix:Nat):Option LRes:=
 match dst,aggT P t,szT P t with
 | some d,some agg,some n=>(x.cellsOf agg n ix obj).map fun(cs,b)=>{ val:=.addr d 0,upd:=some (d,.box cs),bind:=b }
 | _,_,_=>none

def llen (P:Program)(t:TypeId)(x:SV)(obj:Nat→Option SObj)(ix:Nat):Option LRes:=
 match P.underlying t with
 | some (.slice _)=>(match x with
  | .slc ob=>match obj ob with
   | some (.row l _)=>some { val:=.e (.sym ix) true,bind:=some (.ev (.lenL l)) }
   | _=>none
  | x=>x.toE.map fun l=>{ val:=.e (.sym ix) true,bind:=some (.ev (.lenL l)) })
 | some .string=>x.toE.map fun l=>{ val:=.e (.sym ix) true,bind:=some (.ev (.lenS l)) }
 | _=>none


/-! ## soundness -/

def OpOk (P:Program)(o:Oper)(a:Act)(w:World)(w0:World)(X:Ent)(σ':SState)(env:List D):Prop:=
 ∀Q,o.uponIn Fence.wide 0 P a (fun a' w'=>∃ρ',Rep w0 X w' a' σ' env ρ') Q ((execOp a.eval o).run P w)

def FW (r:Option Nat):Fence:={ Fence.wide with round:=r }

def noDefer (o:Oper):Bool:=match o.op with | .defer _=>false | _=>true

theorem callsFW {r:Option Nat}{n:Nat}{P:Program}{f:FuncId}{args:Array Value}{w:World}{R:Ending→World→Prop}:CallsIn (FW r) n P f args w R↔Calls P f args w R:=callsIn_wide

theorem uponFW {P:Program}{o:Oper}{a:Act}{r:Option Nat}{n:Nat}{K K':Act→World→Prop}{Q:Exit→Act→World→Prop}{x:Result Next}(h:o.uponIn Fence.wide 0 P a K Q x)(hK:∀a w,K a w→K' a w):o.uponIn (FW r) n P a K' Q x:=by
 cases x with
 | ok x w'=>
  cases x with
  | value v=>exact hK _ _ h
  | skip=>exact hK _ _ h
  | defer d=>exact hK _ _ h
  | enter f args=>
   refine⟨fun e=>(by cases e),callsFW.2 ((callsIn_wide.1 h.2).mono fun e w'' he=>?_)⟩
   cases e <;> first | exact hK _ _ he | exact he
  | row row args=>exact⟨fun e=>(by cases e),fun c cs _=>let ⟨v,w'',g,s⟩:=h.2 c cs (room_wide _);⟨v,w'',hK _ _ g,s⟩⟩
  | round l f tmps assign body=>
   refine⟨fun e=>(by cases e),h.2.1,fun c cs _=>?_⟩
   obtain⟨e,w'',g,s⟩:=h.2.2 c cs (room_wide _)
   refine⟨e,w'',?_,s⟩
   cases e <;> first | exact hK _ _ g | exact g
  | _=>exact h.elim
 | halt x w'=>
  cases x <;> exact h

theorem upon_mono {P:Program}{o:Oper}{a:Act}{K K':Act→World→Prop}{Q:Exit→Act→World→Prop}{x:Result Next}(h:o.uponIn Fence.wide 0 P a K Q x)(hK:∀a w,K a w→K' a w):o.uponIn Fence.wide 0 P a K' Q x:=uponFW (r:=none) (n:=0) h hK

theorem wpIn_of_upon {P:Program}{o:Oper}{a:Act}{w:World}{r:Option Nat}{n:Nat}{K K':Act→World→Prop}{Q:Exit→Act→World→Prop}(hd:noDefer o=true)(h:o.uponIn Fence.wide 0 P a K Q ((execOp a.eval o).run P w))(hK:∀a w,K a w→K' a w):o.wpIn (FW r) n P a w K' Q:=by
 refine⟨fun _ _=>trivial,?_⟩
 rw[Oper.semAt_plain (FW r) _ _ (fun c hc=>by rw[noDefer,hc] at hd;cases hd)]
 exact uponFW h hK

theorem opOk_value {P:Program}{o:Oper}{a:Act}{w w' w0:World}{X:Ent}{σ':SState}{env:List D}{ρ':Rho}{v:Value}(hr:(execOp a.eval o).run P w=.ok (.value v) w')(h:Rep w0 X w' (a.put o.dst v) σ' env ρ'):OpOk P o a w w0 X σ' env:=by
 intro Q
 rw[hr]
 exact⟨ρ',h⟩

theorem opOk_skip {P:Program}{o:Oper}{a:Act}{w w' w0:World}{X:Ent}{σ':SState}{env:List D}{ρ':Rho}(hr:(execOp a.eval o).run P w=.ok .skip w')(h:Rep w0 X w' (a.put o.dst undef) σ' env ρ'):OpOk P o a w w0 X σ' env:=by
 intro Q
 rw[hr]
 exact⟨ρ',h⟩

section
variable {P:Program} {w w0:World} {X:Ent} {a:Act} {σ:SState} {env:List D} {ρ:Rho}

theorem cell_heap {w:World}{g:Nat}{vs:Array Value}{ty:TypeId}{fr:Nat×Nat}(h:w.heap[g]? = some (.cells vs ty fr))(i:Nat):w.cell? ⟨g,i,none⟩=vs[i]?:=cell_of_row w g i vs ty fr h

theorem run_load_agg {t:TypeId}{n b off:Nat}{vs:List Value}(hg:aggT P t=some true)(hn:szT P t=some n)(hl:vs.length=n)(hc:∀(j:Nat) (v:Value),vs[j]? = some v→w.cell? ⟨b,off+j,none⟩=some v) :
  (loadVar t ⟨b,off,none⟩).run P w=.ok (.agg vs.toArray) w:=by
 have h:=run_loadCells_list (P:=P) w ⟨b,off,none⟩ vs fun j v hv=>by rw[addr_add];exact hc j v hv
 rw[hl] at h
 unfold loadVar
 simp[Sem.run_bind,run_isAgg hg,run_sizeOf hn,h]

theorem run_load_one {t:TypeId}{b off:Nat}{v:Value}(hg:aggT P t=some false)(hc:w.cell? ⟨b,off,none⟩=some v):(loadVar t ⟨b,off,none⟩).run P w=.ok v w:=by
 unfold loadVar
 simp[Sem.run_bind,run_isAgg hg,hc]

theorem exec_load {o:Oper}{t:TypeId}{x:Operand}{b off:Nat}{v:Value}(ho:o.op=.load t x)(hx:a.eval x=.pointer (some ⟨b,off,none⟩))(hr:(loadVar t ⟨b,off,none⟩).run P w=.ok v w) :
  (execOp a.eval o).run P w=.ok (.value v) w:=by
 unfold execOp
 simp only[ho,hx,Instr.loadAt,Instr.sureAddr,Sem.run_bind,Sem.run_pure,Result.andThen_ok,hr]

theorem RdD.ptr_cells {S:Sets}{v:Value}{cs:List D}(h:RdD w S v (.ptr cs)):∃b off,v=.pointer (some ⟨b,off,none⟩)∧∀(j:Nat) (d:D),cs[j]? = some d→d.one=true∧S b (off+j)∧∃u,w.cell? ⟨b,off+j,none⟩=some u∧RdD w S u d:=by
 cases h with
 | @ptr b off _ val ho hS hw hr=>exact⟨b,off,rfl,fun j d hj=>⟨ho j d hj,hS j d hj,val j,hw j d hj,hr j d hj⟩⟩

theorem cells_of {S:Sets}{b off:Nat}:∀{ds:List D},(∀(j:Nat) (d:D),ds[j]? = some d→d.one=true∧∃u,w.cell? ⟨b,off+j,none⟩=some u∧RdD w S u d) →
  ∃vs:List Value,vs.length=ds.length∧(∀(j:Nat) (v:Value),vs[j]? = some v→w.cell? ⟨b,off+j,none⟩=some v)∧∀(j:Nat) (v:Value) (d:D),vs[j]? = some v→ds[j]? = some d→RdD w S v d:=by
 intro ds
 induction ds generalizing off with
 | nil=>intro _;exact⟨[],rfl,by simp,by simp⟩
 | cons d r ih=>
  intro h
  obtain⟨_,u,hu,hrd⟩:=h 0 d rfl
  obtain⟨vs,hl,hc,hr⟩:=ih (off:=off+1) fun j d' hj=>by
   have:=h (j+1) d' (by simpa using hj)
   rwa [show off+(j+1)=off+1+j from by omega] at this
  refine⟨u :: vs,by simp[hl],fun j v hv=>?_,fun j v d' hv hd=>?_⟩
  ·cases j with
   | zero=>simp at hv;subst hv;exact hu
   | succ j=>rw[show off+(j+1)=off+1+j from by omega];exact hc j v (by simpa using hv)
  ·cases j with
   | zero=>simp at hv hd;subst hv hd;exact hrd
   | succ j=>exact hr j v d' (by simpa using hv) (by simpa using hd)

theorem load_agg_data {S:Sets} {t:TypeId} {b off n:Nat} {ds:List D} (hg:aggT P t=some true) (hn:szT P t=some n) (hl:n≤ds.length)
  (hc:∀(j:Nat) (d:D),ds[j]? = some d→d.one=true∧∃u,w.cell? ⟨b,off+j,none⟩=some u∧RdD w S u d):∃v,(loadVar t ⟨b,off,none⟩).run P w=.ok v w∧RdD w S v (.agg (ds.take n)):=by
 obtain⟨vs,hvl,hvc,hvr⟩:=cells_of hc
 refine⟨_,run_load_agg (vs:=vs.take n) hg hn (by simp;omega) (fun j v hv=>?_),.agg (by simp;omega) (fun i d hd=>?_) fun i v d hv hd=>?_⟩
 ·rw[List.getElem?_take] at hv
  split at hv
  ·exact hvc j v hv
  ·cases hv
 ·rw[List.getElem?_take] at hd
  split at hd
  ·exact(hc i d hd).1
  ·cases hd
 ·simp only[List.getElem?_toArray,List.getElem?_take] at hv hd
  split at hv
  ·rename_i hi;rw[if_pos hi] at hd;exact hvr i v d hv hd
  ·cases hv

theorem load_one_data {S:Sets}{t:TypeId}{b off:Nat}{d:D}(hg:aggT P t=some false)(hc:∃u,w.cell? ⟨b,off,none⟩=some u∧RdD w S u d):∃v,(loadVar t ⟨b,off,none⟩).run P w=.ok v w∧RdD w S v d:=by
 obtain⟨u,hu,hr⟩:=hc
 exact⟨u,run_load_one hg hu,hr⟩

theorem row_cells {ob:Nat}{l:E}{sz:Nat}(h:ObjOk w ρ env ob (.row l sz)):∃es,l.eval env=some (.lst es)∧∀(m:Nat) (e:D),es[m]? = some e→e.cells.length=sz ∧
  ∀(j:Nat) (d:D),e.cells[j]? = some d→d.one=true∧∃u,w.cell? ⟨ρ.blk ob,m*sz+j,none⟩=some u∧RdD w ρ.S u d:=by
 obtain⟨vs,ty,es,hh,hxl,hz,hvl,hr,_,_,_⟩:=h
 refine⟨es,hxl,fun m e he=>⟨hz m e he,fun j d hd=>?_⟩⟩
 obtain⟨h1,v,hv,hrd⟩:=hr m e j d he hd
 exact⟨h1,v,by rw[cell_heap hh];exact hv,hrd⟩

theorem D.cells_agg_take {d:D}{n:Nat}(h:d.cells.length=n):d.cells.take n=d.cells:=List.take_of_length_le (by omega)

theorem hOf_eval (h:Rep w0 X w a σ env ρ){dh:D}(he:(hOf σ.obj).eval env=some dh):∃bs,dh=.st bs∧(bs=[]∨StOk w ρ.S ρ.foot bs):=by
 unfold hOf at he
 split at he
 ·rename_i cf x hx
  obtain⟨bs,h1,h2,_⟩:=h.objs _ _ hx
  rw[h1] at he
  cases he
  exact⟨bs,rfl,.inr h2⟩
 ·simp only[E.eval] at he
  cases he
  exact⟨[],rfl,.inl rfl⟩

theorem cellsAt_some {bs:List D}{i:Nat}{b:TypeId×Nat×List D}(h:D.cellsAt (.st bs) i=some b):bs[i]? = some (.blk b.1 b.2.1 b.2.2):=by
 simp only[D.cellsAt] at h
 split at h
 ·rename_i e;cases h;exact e
 ·cases h

theorem ld_run {S:Sets}{foot:Nat→Prop}{t:TypeId}{n:Nat}{agg:Bool}{v:Value}{bs:List D}{dp d:D}(hg:aggT P t=some agg)(hn:szT P t=some n)(hp:RdD w S v dp)(hst:bs=[]∨StOk w S foot bs)(hd:D.ld agg n (.st bs) dp=some d) :
  ∃b off u,v=.pointer (some ⟨b,off,none⟩)∧(loadVar t ⟨b,off,none⟩).run P w=.ok u w∧RdD w S u d∧((!agg)=true→d.one=true):=by
 cases dp with
 | ptr cs=>
  obtain⟨b,f,hxv,hc⟩:=hp.ptr_cells
  have hc':∀(j:Nat) (d:D),cs[j]? = some d→d.one=true∧∃u,w.cell? ⟨b,f+j,none⟩=some u∧RdD w S u d:=fun j d hj=>⟨(hc j d hj).1,(hc j d hj).2.2⟩
  cases agg with
  | true=>
   simp only[D.ld,if_true] at hd
   split at hd
   ·rename_i hle
    cases hd
    obtain⟨u,hrun,hrd⟩:=load_agg_data hg hn hle hc'
    exact⟨b,f,u,hxv,hrun,hrd,by simp⟩
   ·cases hd
  | false=>
   simp only[D.ld,Bool.false_eq_true,if_false] at hd
   obtain⟨h1,h2⟩:=hc' 0 d hd
   obtain⟨u,hrun,hrd⟩:=load_one_data (P:=P) hg h2
   exact⟨b,f,u,hxv,hrun,hrd,fun _=>h1⟩
 | loc i off=>
  cases hp with
  | loc hi=>
  simp only[D.ld,Option.bind_eq_some_iff] at hd
  obtain⟨cells,hb,hd⟩:=hd
  have hc':∀(j:Nat) (d:D),(cells.drop off)[j]? = some d→d.one=true∧∃u,w.cell? ⟨S.loc i,off+j,none⟩=some u∧RdD w S u d:=by
   unfold D.cellsG at hb
   split at hb
   ·rename_i blk hb0
    cases hb
    have hbs:=cellsAt_some hb0
    rcases hst with rfl | hst
    ·simp at hbs
    obtain⟨hf,vs,⟨_,hh,_⟩,hsz,hlen,hone,hr,hns⟩:=hst.cells i _ _ _ hbs
    intro j d hj
    rw[List.getElem?_drop] at hj
    have hlt:off+j<vs.size:=Nat.lt_of_lt_of_le (List.getElem?_eq_some_iff.1 hj).1 hlen
    have hrd:=hr (off+j) vs[off+j] d (by simp[hlt]) hj
    exact⟨hone (off+j) d hj,vs[off+j],by rw[cell_heap hh];simp[hlt],hrd⟩
   ·unfold D.glbAt at hb
    simp only at hb
    split at hb
    ·rename_i g ty vs hbs
     cases hb
     rcases hst with rfl | hst
     ·simp at hbs
     obtain⟨_,⟨_,hh,hpl⟩,_⟩:=hst.its i _ hbs rfl
     intro j d hj
     rw[List.getElem?_drop,List.getElem?_map] at hj
     obtain⟨v,hv,rfl⟩:=Option.map_eq_some_iff.1 hj
     refine⟨rfl,v,?_,.v (List.all_eq_true.1 hpl v (List.mem_of_getElem? hv))⟩
     rw[cell_heap hh]
     simpa using hv
    ·cases hb
  cases agg with
  | true=>
   simp only[if_true] at hd
   split at hd
   ·rename_i hle
    cases hd
    obtain⟨u,hrun,hrd⟩:=load_agg_data hg hn (by simp;omega) hc'
    exact⟨_,off,u,rfl,hrun,hrd,by simp⟩
   ·cases hd
  | false=>
   simp only[Bool.false_eq_true,if_false] at hd
   obtain⟨h1,h2⟩:=hc' 0 d (by simpa using hd)
   obtain⟨u,hrun,hrd⟩:=load_one_data (P:=P) hg h2
   exact⟨_,off,u,rfl,hrun,hrd,fun _=>h1⟩
 | _=>simp[D.ld] at hd

theorem lload_sound {o:Oper} {t:TypeId} {x:Operand} {sx:SV} {ix:Nat} {r:LRes} (ho:o.op=.load t x) (hl:lload P t sx σ.obj ix=some r) (hx:SRd w ρ env (a.eval x) sx) (h:Rep w0 X w a σ env ρ) (hd:∀d,o.dst=some d→d<σ.tmps.length)
  (hb:BindOk P env ix r.bind):r.upd=none∧OpOk P o a w w0 X (σ.put o.dst r.val) env:=by
 unfold lload at hl
 cases hg:aggT P t with
 | none=>simp[hg] at hl
 | some agg=>
 cases hn:szT P t with
 | none=>simp[hg,hn] at hl
 | some n=>
 simp only[hg,hn,Option.bind_some] at hl
 have fin:∀{b off:Nat} {v:Value} {sv:SV},a.eval x=.pointer (some ⟨b,off,none⟩)→(loadVar t ⟨b,off,none⟩).run P w=.ok v w→SRd w ρ env v sv→OpOk P o a w w0 X (σ.put o.dst sv) env:=
  fun hx hr hs=>opOk_value (exec_load ho hx hr) (h.put hd hs)
 split at hl
 ·rename_i ob off
  split at hl
  ·rename_i cs hob
   obtain⟨vs,ty,hh,hlen,hone,hr,_⟩:=h.objs ob _ hob
   have hxv:=hx.addr_inv
   cases agg with
   | true=>
    simp only[if_true] at hl
    split at hl
    ·rename_i hle
     cases hl
     refine⟨rfl,fin hxv (run_load_agg (vs:=(vs.toList.drop off).take n) hg hn (by simp[hlen];omega) fun j v hv=>?_) (.agg (by simp[hlen]) (fun i v hv=>?_) fun i v c hv hc=>?_)⟩
     ·rw[cell_heap hh]
      rw[List.getElem?_take] at hv
      split at hv
      ·simpa using hv
      ·cases hv
     ·simp only[List.getElem?_toArray,List.getElem?_take] at hv
      split at hv
      ·exact hone (off+i) v (by simpa using hv)
      ·cases hv
     ·simp only[List.getElem?_toArray,List.getElem?_take] at hv hc
      split at hv
      ·rename_i hi
       rw[if_pos hi] at hc
       exact hr (off+i) v c (by simpa using hv) (by simpa using hc)
      ·cases hv
    ·cases hl
   | false=>
    simp only[Bool.false_eq_true,if_false,Option.map_eq_some_iff] at hl
    obtain⟨c,hc,rfl⟩:=hl
    have hi:off<vs.size:=by rw[hlen];exact(List.getElem?_eq_some_iff.1 hc).1
    exact⟨rfl,fin hxv (run_load_one (v:=vs[off]) hg (by rw[cell_heap hh];simp[hi])) (hr off vs[off] c (by simp[hi]) hc)⟩
  ·cases hl
 ·rename_i ob i sz off
  split at hl
  ·rename_i l sz' hob
   obtain⟨es,hxl,hes⟩:=row_cells (h.objs ob _ hob)
   split at hl
   ·cases hl
   rename_i hsz
   simp only[Decidable.not_not] at hsz
   subst hsz
   obtain⟨m,k,hi,hxv⟩:=hx.eaddr_inv
   cases agg with
   | true=>
    simp only[if_true] at hl
    split at hl
    ·rename_i hoff
     cases hl
     obtain⟨rfl,rfl⟩:=hoff
     obtain⟨d,he,hix⟩:=hb
     simp only[E.eval,hxl,hi,Option.bind_some,D.idx] at he
     simp at he
     cases hem:es[m]? with
     | none=>simp[hem] at he
     | some e=>
     simp only[hem,Option.bind_some] at he
     obtain⟨hel,hec⟩:=hes m e hem
     have hle:n≤e.cells.length:=by omega
     obtain⟨v,hrun,hrd⟩:=load_agg_data (off:=m*n+0) hg hn hle (fun j d hd=>by simpa using hec j d hd)
     cases e with
     | agg cs=>
      simp only[D.aggN] at he
      split at he
      ·rename_i hcl
       cases he
       refine⟨rfl,fin hxv hrun (.e (d:=.agg cs) (by simp[E.eval,hix]) ?_ (by simp))⟩
       rw[D.cells_agg_take hel] at hrd
       exact hrd
      ·cases he
     | _=>simp[D.aggN] at he
    ·cases hl
   | false=>
    simp only[Bool.false_eq_true,if_false] at hl
    cases hl
    obtain⟨d,he,hix⟩:=hb
    simp only[E.eval,hxl,hi,Option.bind_some,D.idx] at he
    simp at he
    cases hem:es[m]? with
    | none=>simp[hem] at he
    | some e=>
    simp only[hem,Option.bind_some,D.cell] at he
    obtain⟨hel,hec⟩:=hes m e hem
    obtain⟨h1,h2⟩:=hec off d he
    obtain⟨v,hrun,hrd⟩:=load_one_data (P:=P) hg h2
    exact⟨rfl,fin hxv hrun (.e (d:=d) (by simp[E.eval,hix]) hrd fun _=>h1)⟩
  ·cases hl
 ·rename_i y off
  obtain⟨dy,hy,hrd⟩:=hx.iptr_inv
  obtain⟨b,f,hxv,hc⟩:=hrd.ptr_cells
  have hc':∀(j:Nat) (d:D),(dy.cells.drop off)[j]? = some d→d.one=true∧∃u,w.cell? ⟨b,f+j,none⟩=some u∧RdD w ρ.S u d:=fun j d hj=>⟨(hc j d hj).1,(hc j d hj).2.2⟩
  cases agg with
  | true=>
   simp only[if_true] at hl
   split at hl
   ·rename_i hoff
    cases hl
    subst hoff
    obtain⟨d,he,hix⟩:=hb
    simp only[E.eval,hy,Option.bind_some] at he
    cases dy with
    | agg cs=>
     simp only[D.aggN] at he
     split at he
     ·rename_i hcl
      cases he
      have hle:n≤((D.agg cs).cells.drop 0).length:=by simp[D.cells];omega
      obtain⟨v,hrun,hrd⟩:=load_agg_data hg hn hle hc'
      refine⟨rfl,fin hxv hrun (.e (d:=.agg cs) (by simp[E.eval,hix]) ?_ (by simp))⟩
      simpa[D.cells,←hcl] using hrd
     ·cases he
    | _=>simp[D.aggN] at he
   ·rename_i hoff
    cases hl
    obtain⟨d,he,hix⟩:=hb
    simp only[E.eval,hy,Option.bind_some] at he
    cases dy with
    | agg cs=>
     simp only[D.part] at he
     split at he
     ·rename_i hcl
      cases he
      have hle:n≤((D.agg cs).cells.drop off).length:=by simp[D.cells];omega
      obtain⟨v,hrun,hrd⟩:=load_agg_data hg hn hle hc'
      exact⟨rfl,fin hxv hrun (.e (by simp[E.eval,hix];rfl) hrd (by simp))⟩
     ·cases he
    | _=>simp[D.part] at he
  | false=>
   simp only[Bool.false_eq_true,if_false] at hl
   cases hl
   obtain⟨d,he,hix⟩:=hb
   simp only[E.eval,hy,Option.bind_some,D.cell] at he
   obtain⟨h1,h2⟩:=hc' 0 d (by simpa using he)
   obtain⟨v,hrun,hrd⟩:=load_one_data (P:=P) hg h2
   exact⟨rfl,fin hxv hrun (.e (d:=d) (by simp[E.eval,hix]) hrd fun _=>h1)⟩
 ·rename_i p s
  cases hl
  obtain⟨dp,hp,hrd,_⟩:=hx.e_inv
  obtain⟨d,he,hix⟩:=hb
  simp only[E.eval,hp,Option.bind_some,Option.bind_eq_some_iff] at he
  obtain⟨dh,hh,he⟩:=he
  obtain⟨bs,rfl,hst⟩:=hOf_eval h hh
  obtain⟨b,off,u,hv,hrun,hrd',h1⟩:=ld_run hg hn hrd hst he
  exact⟨rfl,fin hv hrun (.e (d:=d) (by simp[E.eval,hix]) hrd' h1)⟩
 ·cases hl

end

end
end Go.Am

/-
 More operations: stores,variables,addresses,operators.
-/
namespace Go.Am
noncomputable section
section
variable {P:Program} {w w0:World} {X:Ent} {a:Act} {σ:SState} {env:List D} {ρ:Rho}

theorem RdD.lst_form {S:Sets}{v:Value}{es:List D}(h:RdD w S v (.lst es)):∃ad n c,v=.slice ad n c∧n=es.length:=by
 cases h with
 | nil=>exact⟨_,_,_,rfl,rfl⟩
 | emp _=>exact⟨_,_,_,rfl,rfl⟩
 | lst hl=>exact⟨_,_,_,rfl,hl⟩

theorem SV.cellsOf_rd {agg:Bool}{n ix:Nat}{sv:SV}{ys:List SV}{b:Option Bind}{v:Value}(hobj:∀o x,σ.obj o=some x→ObjOk w ρ env o x)(h:sv.cellsOf agg n ix σ.obj=some (ys,b))(hb:BindOk P env ix b)(hr:SRd w ρ env v sv) :
  v.cells.size=ys.length∧(∀(i:Nat) (u:Value),v.cells[i]? = some u→u.oneCell'=true)∧∀(i:Nat) (u:Value) (c:SV),v.cells[i]? = some u→ys[i]? = some c→SRd w ρ env u c:=by
 unfold SV.cellsOf at h
 cases agg with
 | true=>
  simp only[if_true] at h
  obtain⟨vs,rfl,h1,h2,h3,h4⟩:=SV.split_rd (P:=P) h hb hr
  exact⟨by simp[Value.cells,h1,h2],h3,h4⟩
 | false=>
  simp only[Bool.false_eq_true,if_false] at h
  have one:∀{sv:SV},v.oneCell'=true→SRd w ρ env v sv→v.cells.size=[sv].length∧(∀(i:Nat) (u:Value),v.cells[i]? = some u→u.oneCell'=true)∧∀(i:Nat) (u:Value) (c:SV),v.cells[i]? = some u→[sv][i]? = some c→SRd w ρ env u c:=by
   intro sv h1 hs
   have hc:v.cells=#[v]:=by cases v <;> first | rfl | simp[Value.oneCell'] at h1
   rw[hc]
   refine⟨rfl,fun i u hu=>?_,fun i u c hu hc'=>?_⟩
   ·cases i with
    | zero=>simp at hu;subst hu;exact h1
    | succ i=>simp at hu
   ·cases i with
    | zero=>simp at hu hc';subst hu hc';exact hs
    | succ i=>simp at hu
  split at h
  ·rename_i x
   cases h
   obtain⟨d,hx,hd,h1⟩:=hr.e_inv
   exact one (hd.one (h1 rfl)) hr
  ·rename_i x
   cases h
   obtain⟨d,hx,hd,_⟩:=hr.e_inv
   obtain⟨d',he,_⟩:=hb
   simp only[E.eval,hx,Option.bind_some,D.scal] at he
   split at he
   ·rename_i h1
    exact one (hd.one h1) (.e hx hd fun _=>h1)
   ·cases he
  ·rename_i o
   split at h
   ·rename_i l sz ho
    cases h
    have hv:=hr.slc_inv
    obtain⟨vs,ty,es,_,_,_,_,_,hval,_⟩:=hobj o _ ho
    exact one (by rw[hv,hval];rfl) hr
   ·cases h
  ·cases h;exact one (by rw[hr.addr_inv];rfl) hr
  ·cases h;obtain⟨_,_,_,hv⟩:=hr.eaddr_inv;exact one (by rw[hv];rfl) hr
  ·cases h;obtain⟨_,_,hd⟩:=hr.iptr_inv;exact one (hd.one rfl) hr
  ·cases h;obtain⟨_,_,hd,_⟩:=hr.own_inv;exact one (hd.one rfl) hr
  ·cases h;obtain⟨_,hv,_⟩:=hr.func_inv;exact one (by rw[hv];rfl) hr
  ·cases h

theorem exec_store {o:Oper} {t:TypeId} {x y:Operand} {b off n:Nat} {cur:Array Value} {ty:TypeId} (ho:o.op=.store t x y) (hx:a.eval x=.pointer (some ⟨b,off,none⟩)) (hn:szT P t=some n) (hl:(a.eval y).cells.size=n)
  (hone:∀(i:Nat) (u:Value),(a.eval y).cells[i]? = some u→u.oneCell'=true) (hh:w.heap[b]? = some (.cells cur ty (0,0))) (hfit:off+n≤cur.size) :
  (execOp a.eval o).run P w=.ok .skip (w.setRow b (cur.toList.take off++(a.eval y).cells.toList++cur.toList.drop (off+n)).toArray):=by
 have hst:=run_storeCells_at P b off ty (a.eval y).cells.toList 0 cur w hh (by simp[hl];omega) (fun v hv=>by
  obtain⟨i,hi⟩:=List.getElem?_of_mem hv
  exact hone i v (by simpa using hi))
 simp only[Nat.add_zero,Array.length_toList,hl] at hst
 unfold execOp
 simp only[ho,hx,Instr.storeAt,Instr.sureAddr,storeVar,Sem.run_bind,Sem.run_pure,Result.andThen_ok,run_sizeOf hn]
 simp[hl,hst]

theorem splice_get {α:Type}(cs ys:List α)(off:Nat)(h:off+ys.length≤cs.length)(i:Nat):(cs.take off++ys++cs.drop (off+ys.length))[i]? = if i<off then cs[i]? else if i<off+ys.length then ys[i-off]? else cs[i]?:=by
 have h1:(cs.take off).length=off:=by simp;omega
 split
 ·rename_i hi
  rw[List.append_assoc,List.getElem?_append_left (by omega),List.getElem?_take,if_pos hi]
 ·rename_i hi
  split
  ·rename_i hj
   rw[List.append_assoc,List.getElem?_append_right (by omega),h1,List.getElem?_append_left (by omega)]
  ·rename_i hj
   rw[List.getElem?_append_right (by simp;omega),List.getElem?_drop]
   congr 1
   simp
   omega

theorem RdD.cells_rd {S:Sets}{v:Value}{d:D}(h:RdD w S v d)(ho:d.cells.all (·.one)=true):v.cells.size=d.cells.length∧(∀(i:Nat) (u:Value),v.cells[i]? = some u→u.oneCell'=true) ∧
  ∀(i:Nat) (u:Value) (c:D),v.cells[i]? = some u→d.cells[i]? = some c→RdD w S u c:=by
 have one:d.one=true→d.cells=[d]∧v.cells=#[v]∧v.oneCell'=true:=fun h1=>by
  have h1v:=h.one h1
  exact⟨D.cells_one h1,by cases v <;> first | rfl | simp[Value.oneCell'] at h1v,h1v⟩
 by_cases h1:d.one=true
 ·obtain⟨e1,e2,e3⟩:=one h1
  rw[e1,e2]
  refine⟨rfl,fun j u hu=>?_,fun j u c hu hc=>?_⟩
  ·cases j with
   | zero=>simp at hu;subst hu;exact e3
   | succ j=>simp at hu
  ·cases j with
   | zero=>simp at hu hc;subst hu hc;exact h
   | succ j=>simp at hu
 ·cases h with
  | agg hl ho' hh=>
   refine⟨hl,fun j u hu=>?_,fun j u c hu hc=>hh j u c hu hc⟩
   rename_i vs ds
   have hj:j<ds.length:=by rw[←hl];exact(Array.getElem?_eq_some_iff.1 hu).1
   exact(hh j u _ hu (List.getElem?_eq_getElem hj)).one (ho' j _ (List.getElem?_eq_getElem hj))
  | tup hl hh=>simp[D.cells,D.one] at ho
  | _=>exact absurd rfl h1

theorem sto_rep {cf:StCfg} {hx y' px:E} {x y:Operand} {n ix:Nat} {o:Oper} {t:TypeId} {sy:SV} {sp:Bool} (ho:o.op=.store t x y) (hn:szT P t=some n) (hob:σ.obj HID=some (.store cf hx)) (hro:cf.ro=false) (hp:SRd w ρ env (a.eval x) (.e px sp)) (hye:sy.toE=some y') (hy:SRd w ρ env (a.eval y) sy)
  (h:Rep w0 X w a σ env ρ) (hd:∀d,o.dst=some d→d<σ.tmps.length) (hb:BindOk P env ix (some (.ev (.sto n hx px y')))):OpOk P o a w w0 X ((σ.setObj HID (some (.store cf (.sym ix)))).put o.dst .junk) env:=by
 obtain⟨dp,hpe,hprd,_⟩:=hp.e_inv
 obtain⟨dy,hey,hyrd⟩:=SV.toE_rd hye hy
 obtain⟨bs,hbe,hst,_⟩:=h.objs _ _ hob
 obtain⟨d,he,hix⟩:=hb
 simp only[E.eval,hpe,hey,hbe,Option.bind_some] at he
 cases dp with
 | loc i off=>
  simp only[D.sto,Option.bind_eq_some_iff] at he
  obtain⟨blk,hcb,he⟩:=he
  split at he
  ·rename_i hc
   cases he
   obtain⟨hc1,hc2,hc3⟩:=hc
   have hbs:=cellsAt_some hcb
   obtain⟨hf,vs,⟨_,hh,hty⟩,hsz,hlen,hone,hr,hns⟩:=hst.cells i _ _ _ hbs
   obtain⟨hy1,hy2,hy3⟩:=hyrd.cells_rd hc3
   have hxe:a.eval x=.pointer (some ⟨ρ.S.loc i,off,none⟩):=by
    generalize a.eval x=v at hprd
    cases hprd
    rfl
   have hrun:=exec_store (P:=P) (w:=w) ho hxe hn (by omega) hy2 hh (by omega)
   refine opOk_skip hrun ((h.setBlock (.inl rfl) hob (b0:=ρ.S.loc i) hf (by simpa[SObj.ro] using hro) (by intro _ hh;exact hh) hns (fun b hb'=>setRow_other w _ b _ hb') rfl ⟨rfl,Nat.le_refl _⟩ rfl (by simp) fun hk=>?_).put (by rw[SState.tmps_setObj];exact hd) .junk)
   have hyl:(a.eval y).cells.toList.length=dy.cells.length:=by simpa using hy1
   refine⟨_,by simp only[E.eval];exact hix,hst.set hk hbs rfl (fun j x _ _ hne=>setRow_other w _ _ _ hne) (fun e sz cs hz=>?_) (fun kvs hz=>by cases hz) (fun hz=>by cases hz),rfl⟩
   cases hz
   refine⟨_,⟨_,setRow_heap w _ _ _ _ _ hh,hty⟩,?_,?_,?_,?_⟩
   ·simp only[List.size_toArray,List.length_append,List.length_take,List.length_drop,Array.length_toList,hyl]
    omega
   ·simp only[List.size_toArray,List.length_append,List.length_take,List.length_drop,Array.length_toList,hyl]
    omega
   ·intro j d hd'
    rw[←hc1] at hd'
    rw[splice_get _ _ _ (by omega)] at hd'
    split at hd'
    ·exact hone j d hd'
    ·split at hd'
     ·exact List.all_eq_true.1 hc3 d (List.mem_of_getElem? hd')
     ·exact hone j d hd'
   ·intro j v d hv hd'
    rw[←hc1] at hv hd'
    rw[splice_get _ _ _ (by omega)] at hd'
    simp only[List.getElem?_toArray] at hv
    rw[←hyl] at hv hd'
    rw[splice_get _ _ _ (by simp;omega)] at hv
    split at hv
    ·rename_i hj
     rw[if_pos hj] at hd'
     exact(hr j v d (by simpa using hv) hd').keep hk (Sets.le_refl _)
    ·rename_i hj
     rw[if_neg hj] at hd'
     split at hv
     ·rename_i hj2
      rw[if_pos hj2] at hd'
      exact(hy3 _ v d (by simpa using hv) hd').keep hk (Sets.le_refl _)
     ·rename_i hj2
      rw[if_neg hj2] at hd'
      exact(hr j v d (by simpa using hv) hd').keep hk (Sets.le_refl _)
  ·cases he
 | _=>simp[D.sto] at he

theorem lstore_sound {o:Oper} {t:TypeId} {x y:Operand} {sx sy:SV} {ix:Nat} {r:LRes} (ho:o.op=.store t x y) (hl:lstore P t sx sy σ.obj ix=some r) (hx:SRd w ρ env (a.eval x) sx) (hy:SRd w ρ env (a.eval y) sy) (h:Rep w0 X w a σ env ρ)
  (hd:∀d,o.dst=some d→d<σ.tmps.length) (hm:∀ob y,σ.obj ob=some y→ob=HID∨ob<σ.mem.length) (hb:BindOk P env ix r.bind):∃ob z,r.upd=some (ob,z)∧(σ.obj ob).isSome∧r.val=.junk∧OpOk P o a w w0 X ((σ.setObj ob (some z)).put o.dst .junk) env:=by
 unfold lstore at hl
 cases hg:aggT P t with
 | none=>simp[hg] at hl
 | some agg=>
 cases hn:szT P t with
 | none=>simp[hg,hn] at hl
 | some n=>
 simp only[hg,hn,Option.bind_some] at hl
 split at hl
 ·rename_i ob off
  split at hl
  ·rename_i cs hob
   obtain⟨⟨ys,b⟩,hcs,hl⟩:=Option.bind_eq_some_iff.1 hl
   simp only at hl
   split at hl
   ·rename_i hfit
    obtain⟨hfit,hyn⟩:=hfit
    cases hl
    refine⟨ob,_,rfl,by simp[hob],rfl,?_⟩
    obtain⟨h1,h2,h3⟩:=SV.cellsOf_rd (P:=P) h.objs hcs hb hy
    obtain⟨vs,ty,hh,hlen,hone,hr,hS⟩:=h.objs ob _ hob
    have hrun:=exec_store (P:=P) (w:=w) ho hx.addr_inv hn (by omega) h2 hh (by omega)
    refine opOk_skip hrun ((h.setBlock (hm ob _ hob) hob (b0:=ρ.blk ob) rfl rfl (by intro _ hh;exact hh) hS (fun b hb'=>setRow_other w _ b _ hb') rfl ⟨rfl,Nat.le_refl _⟩ rfl (by simp) fun hk=>?_).put (by rw[SState.tmps_setObj];exact hd) .junk)
    have hyl:(a.eval y).cells.toList.length=ys.length:=by simpa using h1
    refine⟨_,ty,setRow_heap w _ _ _ _ _ hh,?_,?_,?_,hS⟩
    ·simp only[List.size_toArray,List.length_append,List.length_take,List.length_drop,Array.length_toList,h1,hlen]
     omega
    ·intro i v hv
     rw[←hyn,←hyl] at hv
     simp only[List.getElem?_toArray] at hv
     rw[splice_get _ _ _ (by simp[h1,hlen];omega)] at hv
     split at hv
     ·exact hone i v (by simpa using hv)
     ·split at hv
      ·exact h2 _ v (by simpa using hv)
      ·exact hone i v (by simpa using hv)
    ·intro i v c hv hc
     rw[←hyn,←hyl] at hv
     simp only[List.getElem?_toArray] at hv
     rw[splice_get _ _ _ (by simp[h1,hlen];omega)] at hv
     rw[splice_get _ _ _ hfit] at hc
     rw[hyl] at hv
     have hold:∀{v c},vs.toList[i]? = some v→cs[i]? = some c→SRd (w.setRow (ρ.blk ob) (vs.toList.take off++(a.eval y).cells.toList++vs.toList.drop (off+n)).toArray) ρ env v c:=
      fun hv hc=>(hr i _ _ (by simpa using hv) hc).keep hk (Rho.More.refl ρ fun _=>False) fun _ hf=>hf.elim
     split at hv
     ·rename_i hi;rw[if_pos hi] at hc;exact hold hv hc
     ·rename_i hi
      rw[if_neg hi] at hc
      split at hv
      ·rename_i hj;rw[if_pos hj] at hc
       exact(h3 _ v c (by simpa using hv) hc).keep hk (Rho.More.refl ρ fun _=>False) fun _ hf=>hf.elim
      ·rename_i hj;rw[if_neg hj] at hc;exact hold hv hc
   ·cases hl
  ·cases hl
 ·rename_i ob i sz off
  split at hl
  ·rename_i l sz' hob
   split at hl
   ·cases hl
   rename_i hsz
   simp only[Decidable.not_not] at hsz
   subst hsz
   obtain⟨m,k,hi,hxv⟩:=hx.eaddr_inv
   have fin:∀{y':E} {dy:D},y'.eval env=some dy→RdD w ρ.S (a.eval y) dy→dy.cells.length=n→(a.eval y).cells.size=n→(∀(j:Nat) (u:Value),(a.eval y).cells[j]? = some u→u.oneCell'=true) →
     (∀(j:Nat) (u:Value) (d:D),(a.eval y).cells[j]? = some u→dy.cells[j]? = some d→d.one=true∧RdD w ρ.S u d)→BindOk P env ix (some (.ev (.set l i off y'))) →
     OpOk P o a w w0 X ((σ.setObj ob (some (.row (.sym ix) sz))).put o.dst .junk) env:=by
    intro y' dy hey hrd hdl hcl hc1 hcr hbo
    obtain⟨vs,ty,es,hh,hxl,hz,hvl,hr,hval,hmx,hS⟩:=h.objs ob _ hob
    obtain⟨dn,he,hix⟩:=hbo
    simp only[E.eval,hxl,hi,hey,Option.bind_some,D.set] at he
    simp only[Int.natCast_nonneg,if_true,Int.toNat_natCast] at he
    cases hem:es[m]? with
    | none=>simp[hem] at he
    | some e=>
    simp only[hem,Option.bind_some,Option.map_eq_some_iff] at he
    obtain⟨e',hput,rfl⟩:=he
    have hme:m<es.length:=(List.getElem?_eq_some_iff.1 hem).1
    have hel:=hz m e hem
    have hnew:off+n≤sz∧e'.cells=e.cells.take off++dy.cells++e.cells.drop (off+n):=by
     unfold D.putAt at hput
     split at hput
     ·rename_i cs
      split at hput
      ·rename_i hle
       cases hput
       have hel:cs.length=sz:=hel
       show off+n≤sz∧cs.take off++dy.cells++cs.drop (off+dy.cells.length)=cs.take off++dy.cells++cs.drop (off+n)
       rw[hdl] at hle ⊢
       exact⟨by omega,rfl⟩
      ·cases hput
     ·rename_i hna
      split at hput
      ·rename_i hoo
       cases hput
       obtain⟨rfl,h1⟩:=hoo
       have he1:e.cells=[e]:=by cases e <;> first | rfl | exact absurd rfl (hna _)
       have hd1:=D.cells_one h1
       rw[he1] at hel
       rw[hd1] at hdl
       simp at hel hdl
       subst hdl
       rw[he1,hd1]
       exact⟨by omega,by simp⟩
      ·cases hput
    obtain⟨hon,hcells⟩:=hnew
    have hmsz:m*sz+sz≤es.length*sz:=by
     have:=Nat.mul_le_mul_right sz (show m+1≤es.length from hme)
     rwa [Nat.add_mul,Nat.one_mul] at this
    have hrun:=exec_store (P:=P) (w:=w) ho hxv hn hcl hc1 hh (by omega)
    refine opOk_skip hrun ((h.setBlock (hm ob _ hob) hob (b0:=ρ.blk ob) rfl rfl (by intro _ hh;exact hh) hS (fun b hb'=>setRow_other w _ b _ hb') rfl ⟨rfl,Nat.le_refl _⟩ rfl (by simp) fun hk=>?_).put (by rw[SState.tmps_setObj];exact hd) .junk)
    have hyl:(a.eval y).cells.toList.length=n:=by simpa using hcl
    have hspl:∀i,(vs.toList.take (m*sz+off)++(a.eval y).cells.toList++vs.toList.drop (m*sz+off+n))[i]? = if i<m*sz+off then vs[i]? else if i<m*sz+off+n then(a.eval y).cells[i-(m*sz+off)]? else vs[i]?:=by
     intro i
     have:=splice_get vs.toList (a.eval y).cells.toList (m*sz+off) (by rw[hyl];simp;omega) i
     rw[hyl] at this
     simpa using this
    have hcs':e'.cells.length=sz:=by
     rw[hcells]
     simp only[List.length_append,List.length_take,List.length_drop,hdl,hel]
     omega
    refine⟨_,ty,es.set m e',setRow_heap w _ _ _ _ _ hh,by simp[E.eval,hix],?_,?_,?_,by simpa using hval,by simpa using hmx,hS⟩
    ·intro j e2 hj
     by_cases hmj:m=j
     ·subst hmj
      simp[hme] at hj
      subst hj
      exact hcs'
     ·rw[List.getElem?_set_ne hmj] at hj
      exact hz j e2 hj
    ·simp only[List.size_toArray,List.length_append,List.length_take,List.length_drop,Array.length_toList,hcl,hvl,List.length_set]
     omega
    ·intro j e2 c d hj hd2
     have hcl2:c<sz:=by
      have hcc:=(List.getElem?_eq_some_iff.1 hd2).1
      by_cases hmj:m=j
      ·subst hmj
       simp[hme] at hj
       subst hj
       omega
      ·rw[List.getElem?_set_ne hmj] at hj
       have:=hz j e2 hj;omega
     have hlt:∀{j},j<m→j*sz+sz≤m*sz:=fun {j} hjm=>by
      have:=Nat.mul_le_mul_right sz (show j+1≤m from hjm)
      rwa [Nat.add_mul,Nat.one_mul] at this
     have hgt:∀{j},m<j→m*sz+sz≤j*sz:=fun {j} hjm=>by
      have:=Nat.mul_le_mul_right sz (show m+1≤j from hjm)
      rwa [Nat.add_mul,Nat.one_mul] at this
     simp only[List.getElem?_toArray,hspl]
     have keepv:∀{u:Value} {d:D},RdD w ρ.S u d→RdD (w.setRow (ρ.blk ob) (vs.toList.take (m*sz+off)++(a.eval y).cells.toList++vs.toList.drop (m*sz+off+n)).toArray) ρ.S u d:=fun hu=>hu.keep hk (Sets.le_refl _)
     by_cases hmj:m=j
     ·subst hmj
      simp[hme] at hj
      subst hj
      rw[hcells,show off+n=off+dy.cells.length from by omega,splice_get _ _ _ (by omega)] at hd2
      split at hd2
      ·rename_i hc
       obtain⟨h1,v,hv,hrv⟩:=hr m e c d hem hd2
       exact⟨h1,v,by rw[if_pos (by omega)];exact hv,keepv hrv⟩
      ·split at hd2
       ·rename_i hc hc2
        have hcy:c-off<(a.eval y).cells.size:=by omega
        obtain⟨h1,h2⟩:=hcr (c-off) _ d (Array.getElem?_eq_getElem hcy) hd2
        refine⟨h1,(a.eval y).cells[c-off],?_,keepv h2⟩
        rw[if_neg (by omega),if_pos (by omega),show m*sz+c-(m*sz+off)=c-off from by omega]
        exact Array.getElem?_eq_getElem hcy
       ·rename_i hc hc2
        obtain⟨h1,v,hv,hrv⟩:=hr m e c d hem hd2
        exact⟨h1,v,by rw[if_neg (by omega),if_neg (by omega)];exact hv,keepv hrv⟩
     ·rw[List.getElem?_set_ne hmj] at hj
      obtain⟨h1,v,hv,hrv⟩:=hr j e2 c d hj hd2
      refine⟨h1,v,?_,keepv hrv⟩
      rcases Nat.lt_or_ge j m with hjm | hjm
      ·have:=hlt hjm
       rw[if_pos (by omega)];exact hv
      ·have:=hgt (show m<j from by omega)
       rw[if_neg (by omega),if_neg (by omega)];exact hv
   have one:∀{dy:D},dy.one=true→RdD w ρ.S (a.eval y) dy→(a.eval y).cells.size=1∧(∀(j:Nat) (u:Value),(a.eval y).cells[j]? = some u→u.oneCell'=true) ∧
     ∀(j:Nat) (u:Value) (d:D),(a.eval y).cells[j]? = some u→dy.cells[j]? = some d→d.one=true∧RdD w ρ.S u d:=by
    intro dy h1 hrd
    have h1v:=hrd.one h1
    have hc:(a.eval y).cells=#[a.eval y]:=by cases hv:a.eval y <;> first | rfl | (rw[hv] at h1v;simp[Value.oneCell'] at h1v)
    rw[hc,D.cells_one h1]
    refine⟨rfl,fun j u hu=>?_,fun j u d hu hd'=>?_⟩
    ·cases j with
     | zero=>simp at hu;subst hu;exact h1v
     | succ j=>simp at hu
    ·cases j with
     | zero=>simp at hu hd';subst hu hd';exact⟨h1,hrd⟩
     | succ j=>simp at hu
   split at hl
   ·rename_i y'
    split at hl
    ·rename_i hn1
     cases hl
     refine⟨ob,_,rfl,by simp[hob],rfl,?_⟩
     obtain⟨dy,hey,hrd,h1⟩:=hy.e_inv
     obtain⟨ha,hb',hc⟩:=one (h1 rfl) hrd
     exact fin hey hrd (by rw[D.cells_one (h1 rfl)];simp[hn1]) (by omega) hb' hc hb
    ·cases hl
   ·rename_i y'
    split at hl
    ·rename_i hn1
     cases hl
     refine⟨ob,_,rfl,by simp[hob],rfl,?_⟩
     obtain⟨dy,hey,hrd,_⟩:=hy.e_inv
     have h1:dy.one=true:=by
      obtain⟨d,he,_⟩:=hb
      simp only[E.eval,hey,Option.bind_some,D.scal] at he
      cases hl':l.eval env with
      | none=>simp[hl'] at he
      | some dl=>
       cases hi':i.eval env with
       | none=>simp[hl',hi'] at he
       | some di=>
        by_cases h1:dy.one=true
        ·exact h1
        ·simp[hl',hi',h1] at he
     obtain⟨ha,hb',hc⟩:=one h1 hrd
     exact fin (y':=.scal y') (by simp[E.eval,hey,D.scal,h1]) hrd (by rw[D.cells_one h1];simp[hn1]) (by omega) hb' hc hb
    ·cases hl
   ·rename_i y
    obtain⟨y',hye,rfl⟩:=Option.map_eq_some_iff.1 hl
    refine⟨ob,_,rfl,by simp[hob],rfl,?_⟩
    obtain⟨dy,hey,hrd⟩:=SV.toE_rd hye hy
    have hag:∃cs,dy=.agg cs∧cs.length=n:=by
     obtain⟨d,he,_⟩:=hb
     simp only[E.eval,hey,Option.bind_some] at he
     cases hl':l.eval env with
     | none=>simp[hl'] at he
     | some dl=>
      cases hi':i.eval env with
      | none=>simp[hl',hi'] at he
      | some di=>
       cases dy with
       | agg cs=>
        by_cases hcl:cs.length=n
        ·exact⟨cs,rfl,hcl⟩
        ·simp[hl',hi',D.aggN,hcl] at he
       | _=>simp[hl',hi',D.aggN] at he
    obtain⟨cs,rfl,hcl⟩:=hag
    obtain⟨vs,hve,hvl,ho1,hh⟩:=hrd.agg_inv
    refine fin (y':=.aggN n y') (dy:=.agg cs) (by simp[E.eval,hey,D.aggN,hcl]) hrd hcl (by rw[hve];simp[Value.cells];omega) (fun j u hu=>?_) (fun j u d hu hd'=>?_) hb
    ·rw[hve] at hu
     have hj:j<cs.length:=by rw[←hvl];exact(Array.getElem?_eq_some_iff.1 hu).1
     exact(hh j u _ hu (List.getElem?_eq_getElem hj)).one (ho1 j _ (List.getElem?_eq_getElem hj))
    ·rw[hve] at hu
     exact⟨ho1 j d hd',hh j u d hu hd'⟩
   ·cases hl
  ·cases hl
 ·rename_i p s
  split at hl
  ·rename_i cf hx' y' hob hye
   split at hl
   ·cases hl
   ·rename_i hro
    cases hl
    exact⟨HID,_,rfl,by simp[hob],rfl,sto_rep ho hn hob (by simpa using hro) hx hye hy h hd hb⟩
  ·cases hl
 ·cases hl

end
end
end Go.Am

/-
 More operations: addresses,operators,new variables.
-/
namespace Go.Am
noncomputable section
section
variable {P:Program} {w w0:World} {X:Ent} {a:Act} {σ:SState} {env:List D} {ρ:Rho}

theorem opOk_same {o:Oper}{v:Value}{sv:SV}(h:Rep w0 X w a σ env ρ)(hd:∀d,o.dst=some d→d<σ.tmps.length)(hr:(execOp a.eval o).run P w=.ok (.value v) w)(hs:SRd w ρ env v sv):OpOk P o a w w0 X (σ.put o.dst sv) env:=
 opOk_value hr (h.put hd hs)

theorem lmove_sound {o:Oper}{x:Operand}{sx:SV}(ho:o.op=.move x∨o.op=.assign x)(hx:SRd w ρ env (a.eval x) sx)(h:Rep w0 X w a σ env ρ)(hd:∀d,o.dst=some d→d<σ.tmps.length):OpOk P o a w w0 X (σ.put o.dst sx) env:=
 opOk_same h hd (by rcases ho with ho | ho <;> (unfold execOp;simp only[ho];rfl)) hx

theorem RdD.loc_form {S:Sets}{v:Value}{i off:Nat}(h:RdD w S v (.loc i off)):∃ad,v=.pointer (some ad):=by
 cases h;exact⟨_,rfl⟩

theorem RdD.v_eq {S:Sets}{v x:Value}(h:RdD w S v (.v x)):v=x:=h.v_inv.1

theorem kindOf_mp {t:TypeId}(h:kindOf P t=some .mp):∃k e,P.underlying t=some (.map k e):=by
 unfold kindOf at h
 split at h <;> simp at h
 exact⟨_,_,by assumption⟩

theorem RdD.mp_form {w:World}{S:Sets}{v:Value}{i:Nat}(h:RdD w S v (.mp i)):∃r,v=.map (some r):=by
 cases h;exact⟨_,rfl⟩

theorem kindOf_ptr {t:TypeId}(h:kindOf P t=some .ptr):∃e,P.underlying t=some (.pointer e):=by
 unfold kindOf at h
 split at h <;> simp at h
 exact⟨_,by assumption⟩

theorem kindOf_bool {t:TypeId}(h:kindOf P t=some .bool):P.underlying t=some .bool:=by
 unfold kindOf at h
 split at h <;> simp at h
 assumption

theorem equalIn_ptr1 (d:Nat)(t e:TypeId)(p:Option Addr)(h:P.underlying t=some (.pointer e)):(Op.equalIn (d+1) t (.pointer p) (.pointer none)).run P w=.ok p.isNone w:=by
 simp only[Op.equalIn,Sem.run_bind,run_underlying h,Result.andThen_ok]
 cases p <;> rfl
theorem equalIn_ptr2 (d:Nat)(t e:TypeId)(p:Option Addr)(h:P.underlying t=some (.pointer e)):(Op.equalIn (d+1) t (.pointer none) (.pointer p)).run P w=.ok p.isNone w:=by
 simp only[Op.equalIn,Sem.run_bind,run_underlying h,Result.andThen_ok]
 rfl
theorem eql_ptr1 (t e:TypeId)(p:Option Addr)(h:P.underlying t=some (.pointer e)):(binOp .eql t (.pointer p) (.pointer none)).run P w=.ok (.bool p.isNone) w:=by
 have h1:(Op.equal t (.pointer p) (.pointer none)).run P w=.ok p.isNone w:=equalIn_ptr1 9999 t e p h
 simp only[binOp,Sem.run_bind,h1,Result.andThen_ok,Sem.run_pure]
theorem neq_ptr1 (t e:TypeId)(p:Option Addr)(h:P.underlying t=some (.pointer e)):(binOp .neq t (.pointer p) (.pointer none)).run P w=.ok (.bool (!p.isNone)) w:=by
 have h1:(Op.equal t (.pointer p) (.pointer none)).run P w=.ok p.isNone w:=equalIn_ptr1 9999 t e p h
 simp only[binOp,Sem.run_bind,h1,Result.andThen_ok,Sem.run_pure]
theorem eql_ptr2 (t e:TypeId)(p:Option Addr)(h:P.underlying t=some (.pointer e)):(binOp .eql t (.pointer none) (.pointer p)).run P w=.ok (.bool p.isNone) w:=by
 have h1:(Op.equal t (.pointer none) (.pointer p)).run P w=.ok p.isNone w:=equalIn_ptr2 9999 t e p h
 simp only[binOp,Sem.run_bind,h1,Result.andThen_ok,Sem.run_pure]
theorem neq_ptr2 (t e:TypeId)(p:Option Addr)(h:P.underlying t=some (.pointer e)):(binOp .neq t (.pointer none) (.pointer p)).run P w=.ok (.bool (!p.isNone)) w:=by
 have h1:(Op.equal t (.pointer none) (.pointer p)).run P w=.ok p.isNone w:=equalIn_ptr2 9999 t e p h
 simp only[binOp,Sem.run_bind,h1,Result.andThen_ok,Sem.run_pure]

theorem run_part_one {t:TypeId}{xs:Array Value}{i:Nat}{v:Value}(hg:aggT P t=some false)(hv:xs[i]? = some v):(part t xs i).run P w=.ok v w:=by
 simp[part,run_isAgg hg,hv]

theorem run_eqFields {d:Nat}{xs ys:Array Value}{dx dy:List D}{S:Sets}(hxl:xs.size=dx.length)(hyl:ys.size=dy.length)(hx:∀(i:Nat) (v:Value) (c:D),xs[i]? = some v→dx[i]? = some c→RdD w S v c)(hy:∀(i:Nat) (v:Value) (c:D),ys[i]? = some v→dy[i]? = some c→RdD w S v c) :
  ∀(fs:List Field) (i:Nat) (ks:List Nat) (b:Bool),flatFields P i fs=some ks→D.eqs ks (dx.drop i) (dy.drop i)=some b→(Op.eqFields (d+1) xs ys fs).run P w=.ok b w
 | [],i,ks,b,hf,he=>by
  simp only[flatFields] at hf
  cases hf
  cases h1:dx.drop i <;> cases h2:dy.drop i <;> rw[h1,h2] at he <;> simp[D.eqs] at he
  subst he
  simp[Op.eqFields]
 | f :: fs,i,ks,b,hf,he=>by
  simp only[flatFields] at hf
  split at hf
  ·rename_i hc
   obtain⟨hoff,hname⟩:=hc
   have key:∀{ks':List Nat} {cx cy:D} {rx ry:List D} {r b':Bool},dx.drop i=cx :: rx→dy.drop i=cy :: ry→flatFields P (i+1) fs=some ks'→aggT P f.type=some false →
     (∀{u v:Value},RdD w S u cx→RdD w S v cy→(Op.equalIn (d+1) f.type u v).run P w=.ok r w)→D.eqs ks' rx ry=some b'→b=(r&&b')→(Op.eqFields (d+1) xs ys (f :: fs)).run P w=.ok b w:=by
    intro ks' cx cy rx ry r b' h1 h2 hks hagg hr hb' hbb
    have hil:i<dx.length:=by
     rcases Nat.lt_or_ge i dx.length with h | h
     ·exact h
     ·rw[List.drop_of_length_le h] at h1;cases h1
    have hil':i<dy.length:=by
     rcases Nat.lt_or_ge i dy.length with h | h
     ·exact h
     ·rw[List.drop_of_length_le h] at h2;cases h2
    rw[List.drop_eq_getElem_cons hil] at h1
    rw[List.drop_eq_getElem_cons hil'] at h2
    cases h1;cases h2
    have hpx:(part f.type xs f.offset).run P w=.ok xs[i] w:=run_part_one hagg (by rw[hoff];simp[hxl,hil])
    have hpy:(part f.type ys f.offset).run P w=.ok ys[i] w:=run_part_one hagg (by rw[hoff];simp[hyl,hil'])
    have hrr:=hr (hx i xs[i] dx[i] (by simp[hxl,hil]) (by simp[hil])) (hy i ys[i] dy[i] (by simp[hyl,hil']) (by simp[hil']))
    have ih':=run_eqFields (d:=d) hxl hyl hx hy fs (i+1) ks' b' hks hb'
    simp only[Op.eqFields,hname,ne_eq,not_false_eq_true,if_true,Sem.run_bind,hpx,hpy,hrr,Result.andThen_ok]
    cases r with
    | false=>simp[hbb]
    | true=>simp[hbb,ih']
   split at hf
   ·rename_i k hu
    obtain⟨ks',hks,rfl⟩:=Option.map_eq_some_iff.1 hf
    unfold D.eqs at he
    split at he <;> first | (rename_i e _ _;cases e;done) | skip
    ·rename_i e1 e2 e3
     cases e1
     split at he
     ·rename_i hk
      subst hk
      obtain⟨b',h1,rfl⟩:=Option.map_eq_some_iff.1 he
      exact key e2 e3 hks (by unfold aggT;rw[hu];rfl) (fun hu1 hv1=>by rw[hu1.v_eq,hv1.v_eq];exact run_equalIn_int w d f.type _ k _ _ hu) h1 rfl
     ·cases he
    ·cases he
   ·rename_i hu
    obtain⟨ks',hks,rfl⟩:=Option.map_eq_some_iff.1 hf
    unfold D.eqs at he
    split at he <;> first | (rename_i e _ _;cases e;done) | skip
    ·rename_i e1 e2 e3
     cases e1
     obtain⟨b',h1,rfl⟩:=Option.map_eq_some_iff.1 he
     exact key e2 e3 hks (by unfold aggT;rw[hu];rfl) (fun hu1 hv1=>by rw[hu1.v_eq,hv1.v_eq];exact run_equalIn_bool' w d f.type _ _ hu) h1 rfl
    ·cases he
   ·rename_i hu
    obtain⟨ks',hks,rfl⟩:=Option.map_eq_some_iff.1 hf
    unfold D.eqs at he
    split at he <;> first | (rename_i e _ _;cases e;done) | skip
    ·rename_i e1 e2 e3
     cases e1
     obtain⟨b',h1,rfl⟩:=Option.map_eq_some_iff.1 he
     exact key e2 e3 hks (by unfold aggT;rw[hu];rfl) (fun hu1 hv1=>by rw[hu1.v_eq,hv1.v_eq];exact run_equalIn_string w d f.type _ _ hu) h1 rfl
    ·cases he
   ·cases hf
  ·cases hf

theorem run_bin {op:BinOp}{t:TypeId}{x y:Operand}{v u:Value}{kd:Kd}{dx dy dz:D}{S:Sets}(hk:kindOf P t=some kd)(hz:D.bin op kd dx dy=some dz)(hx:RdD w S v dx)(hy:RdD w S u dy) :
  ∃r,(do eqGuard op t x y v u;binOp op t v u:Sem Value).run P w=.ok r w∧RdD w S r dz∧dz.one=true:=by
 unfold D.bin at hz
 split at hz
 ·rename_i k a k' b
  obtain rfl:=hx.v_eq
  obtain rfl:=hy.v_eq
  simp only[eqGuard_at_int,Sem.run_bind,Sem.run_pure,Result.andThen_ok]
  clear hk
  cases op
  case shl=>simp[shI] at hz;obtain⟨n,⟨hb,rfl⟩,rfl⟩:=hz;exact⟨_,by simp[binOp,Op.shift,show¬b<0 by omega],.v rfl,rfl⟩
  case shr=>simp[shI] at hz;obtain⟨n,⟨hb,rfl⟩,rfl⟩:=hz;exact⟨_,by simp[binOp,Op.shift,show¬b<0 by omega],.v rfl,rfl⟩
  case quo=>simp[cmpI,arI] at hz;obtain⟨rfl,n,⟨hb,rfl⟩,rfl⟩:=hz;exact⟨_,by simp[binOp,Op.intDiv,hb],.v rfl,rfl⟩
  case rem=>simp[cmpI,arI] at hz;obtain⟨rfl,n,⟨hb,rfl⟩,rfl⟩:=hz;exact⟨_,by simp[binOp,Op.intDiv,hb],.v rfl,rfl⟩
  all_goals (simp only[cmpI,arI,Option.map_some] at hz;by_cases hkk:k=k' <;> simp only[hkk,if_true,if_false,Option.some.injEq] at hz <;> first | (cases hz;done) | skip)
  all_goals (subst hkk;subst hz;exact⟨_,by simp[binOp,Op.intCmp,Op.intArith,Op.intBits],.v rfl,rfl⟩)
 ·rename_i b b'
  obtain rfl:=hx.v_eq
  obtain rfl:=hy.v_eq
  have ht:=kindOf_bool hk
  simp only[eqGuard_at_bool,Sem.run_bind,Sem.run_pure,Result.andThen_ok]
  split at hz <;> first | (cases hz;done) | skip
  ·cases hz;exact⟨_,run_eql_bool w t b b' ht,.v rfl,rfl⟩
  ·cases hz;exact⟨_,run_neq_bool w t b b' ht,.v rfl,rfl⟩
 ·rename_i s s'
  obtain rfl:=hx.v_eq
  obtain rfl:=hy.v_eq
  simp only[eqGuard_at_string,Sem.run_bind,Sem.run_pure,Result.andThen_ok]
  split at hz <;> first | (cases hz;done) | skip
  ·split at hz
   ·cases hz
   ·rename_i hsz
    cases hz
    exact⟨_,by simp only[binOp,Op.stringOp];rw[if_neg hsz];rfl,.v rfl,rfl⟩
  all_goals (cases hz;exact⟨_,by simp only[binOp,Op.stringOp];rfl,.v rfl,rfl⟩)
 ·obtain rfl:=hx.v_eq
  obtain rfl:=hy.v_eq
  obtain⟨e,ht⟩:=kindOf_ptr hk
  simp only[eqGuard_at_pointer,Sem.run_bind,Sem.run_pure,Result.andThen_ok]
  split at hz <;> first | (cases hz;done) | skip
  ·cases hz;exact⟨_,eql_ptr1 t e none ht,.v rfl,rfl⟩
  ·cases hz;exact⟨_,neq_ptr1 t e none ht,.v rfl,rfl⟩
 ·obtain⟨ad,rfl⟩:=hx.loc_form
  obtain rfl:=hy.v_eq
  obtain⟨e,ht⟩:=kindOf_ptr hk
  simp only[eqGuard_at_pointer,Sem.run_bind,Sem.run_pure,Result.andThen_ok]
  split at hz <;> first | (cases hz;done) | skip
  ·cases hz;exact⟨_,eql_ptr1 t e _ ht,.v rfl,rfl⟩
  ·cases hz;exact⟨_,neq_ptr1 t e _ ht,.v rfl,rfl⟩
 ·obtain rfl:=hx.v_eq
  obtain⟨ad,rfl⟩:=hy.loc_form
  obtain⟨e,ht⟩:=kindOf_ptr hk
  simp only[eqGuard_at_pointer,Sem.run_bind,Sem.run_pure,Result.andThen_ok]
  split at hz <;> first | (cases hz;done) | skip
  ·cases hz;exact⟨_,eql_ptr2 t e _ ht,.v rfl,rfl⟩
  ·cases hz;exact⟨_,neq_ptr2 t e _ ht,.v rfl,rfl⟩
 ·obtain⟨b,f,rfl,_⟩:=hx.ptr_cells
  obtain rfl:=hy.v_eq
  obtain⟨e,ht⟩:=kindOf_ptr hk
  simp only[eqGuard_at_pointer,Sem.run_bind,Sem.run_pure,Result.andThen_ok]
  split at hz <;> first | (cases hz;done) | skip
  ·cases hz;exact⟨_,eql_ptr1 t e _ ht,.v rfl,rfl⟩
  ·cases hz;exact⟨_,neq_ptr1 t e _ ht,.v rfl,rfl⟩
 ·obtain rfl:=hx.v_eq
  obtain⟨b,f,rfl,_⟩:=hy.ptr_cells
  obtain⟨e,ht⟩:=kindOf_ptr hk
  simp only[eqGuard_at_pointer,Sem.run_bind,Sem.run_pure,Result.andThen_ok]
  split at hz <;> first | (cases hz;done) | skip
  ·cases hz;exact⟨_,eql_ptr2 t e _ ht,.v rfl,rfl⟩
  ·cases hz;exact⟨_,neq_ptr2 t e _ ht,.v rfl,rfl⟩
 ·obtain⟨r,rfl⟩:=hx.mp_form
  obtain rfl:=hy.v_eq
  obtain⟨k,e,ht⟩:=kindOf_mp hk
  have hg:(eqGuard op t x y (.map (some r)) (.map none)).run P w=.ok () w:=by cases op <;> simp[eqGuard]
  simp only[Sem.run_bind,hg,Result.andThen_ok]
  split at hz <;> first | (cases hz;done) | skip
  ·cases hz;exact⟨_,run_eql_map_nil w t k e _ ht,.v rfl,rfl⟩
  ·cases hz;exact⟨_,run_neq_map_nil w t k e _ ht,.v rfl,rfl⟩
 ·obtain rfl:=hx.v_eq
  obtain rfl:=hy.v_eq
  obtain⟨k,e,ht⟩:=kindOf_mp hk
  have hg:(eqGuard op t x y (.map none) (.map none)).run P w=.ok () w:=by cases op <;> simp[eqGuard]
  simp only[Sem.run_bind,hg,Result.andThen_ok]
  split at hz <;> first | (cases hz;done) | skip
  ·cases hz;exact⟨_,run_eql_map_nil w t k e none ht,.v rfl,rfl⟩
  ·cases hz;exact⟨_,run_neq_map_nil w t k e none ht,.v rfl,rfl⟩
 ·rename_i ks dx dy
  obtain⟨xs,rfl,hxl,_,hxr⟩:=hx.agg_inv
  obtain⟨ys,rfl,hyl,_,hyr⟩:=hy.agg_inv
  have hfl:∃fs:Array Field,P.underlying t=some (.struct fs)∧flatStruct P t=some ks:=by
   unfold kindOf at hk
   split at hk <;> simp at hk
   exact⟨_,by assumption,hk⟩
  obtain⟨fs,hu,hfl⟩:=hfl
  unfold flatStruct at hfl
  rw[hu] at hfl
  simp only at hfl
  split at hfl
  ·rename_i hc
   have hfo:P.fieldsOf t=fs:=by simp[Program.fieldsOf,hu]
   have heq:∀{b:Bool},D.eqs ks dx dy=some b→(Op.equalIn 10000 t (.agg xs) (.agg ys)).run P w=.ok b w:=by
    intro b hb
    rw[run_equalIn_agg w 9999 t xs ys (by rw[hfo];exact hu) hc.1,hfo]
    exact run_eqFields (d:=9998) hxl hyl hxr hyr fs.toList 0 ks b hfl (by simpa using hb)
   have hg:=run_eqGuard_agg (P:=P) w op t x y xs ys hc.2
   simp only[Sem.run_bind,hg,Result.andThen_ok]
   split at hz
   ·obtain⟨b,hb,rfl⟩:=Option.map_eq_some_iff.1 hz
    exact⟨.bool b,by rw[run_eql_struct,heq hb];rfl,.v rfl,rfl⟩
   ·obtain⟨b,hb,rfl⟩:=Option.map_eq_some_iff.1 hz
    exact⟨.bool (!b),by rw[run_neq_struct,heq hb];rfl,.v rfl,rfl⟩
   ·cases hz
  ·cases hfl
 ·cases hz

theorem isAddr_form {v:Value}{sv:SV}(h:SRd w ρ env v sv)(ha:isAddr sv=true):∃ad,v=.pointer (some ad):=by
 cases sv <;> simp[isAddr] at ha
 ·exact⟨_,h.addr_inv⟩
 ·obtain⟨_,_,_,hv⟩:=h.eaddr_inv;exact⟨_,hv⟩
 ·obtain⟨_,_,hd⟩:=h.iptr_inv;obtain⟨b,f,hv,_⟩:=hd.ptr_cells;exact⟨_,hv⟩

theorem isNilC_form {v:Value}{sv:SV}(h:SRd w ρ env v sv)(ha:isNilC sv=true):v=.pointer none:=by
 unfold isNilC at ha
 split at ha
 ·obtain⟨d,hx,hd,_⟩:=h.e_inv
  simp[E.eval] at hx
  subst hx
  exact hd.v_eq
 ·simp at ha

theorem lbin_sound {o:Oper} {op:BinOp} {t yt:TypeId} {x y:Operand} {sx sy:SV} {ix:Nat} {r:LRes} (ho:o.op=.binOp op t x y yt) (hl:lbin P op t sx sy ix=some r) (hx:SRd w ρ env (a.eval x) sx) (hy:SRd w ρ env (a.eval y) sy) (h:Rep w0 X w a σ env ρ)
  (hd:∀d,o.dst=some d→d<σ.tmps.length) (hb:BindOk P env ix r.bind):r.upd=none∧OpOk P o a w w0 X (σ.put o.dst r.val) env:=by
 unfold lbin at hl
 have hexec:∀{v:Value},(do eqGuard op t x y (a.eval x) (a.eval y);binOp op t (a.eval x) (a.eval y):Sem Value).run P w=.ok v w→(execOp a.eval o).run P w=.ok (.value v) w:=by
  intro v hv
  unfold execOp
  simp only[ho,Sem.run_bind]
  simp only[Sem.run_bind] at hv
  cases hg:(eqGuard op t x y (a.eval x) (a.eval y)).run P w with
  | halt _ _=>rw[hg] at hv;simp at hv
  | ok _ w1=>
   rw[hg] at hv
   simp only[Result.andThen_ok] at hv ⊢
   rw[hv]
   rfl
 split at hl
 ·rename_i hc
  obtain⟨hk,hc⟩:=hc
  obtain⟨e,ht⟩:=kindOf_ptr hk
  have hrun:∀b,(op=.eql∧b=false∨op=.neq∧b=true)→(do eqGuard op t x y (a.eval x) (a.eval y);binOp op t (a.eval x) (a.eval y):Sem Value).run P w=.ok (.bool b) w:=by
   intro b hob
   rcases hc with⟨h1,h2⟩ | ⟨h1,h2⟩
   ·obtain⟨ad,hv⟩:=isAddr_form hx h1
    have hu:=isNilC_form hy h2
    rw[hv,hu]
    simp only[eqGuard_at_pointer,Sem.run_bind,Sem.run_pure,Result.andThen_ok]
    rcases hob with⟨rfl,rfl⟩ | ⟨rfl,rfl⟩
    ·exact eql_ptr1 t e _ ht
    ·exact neq_ptr1 t e _ ht
   ·obtain⟨ad,hu⟩:=isAddr_form hy h2
    have hv:=isNilC_form hx h1
    rw[hv,hu]
    simp only[eqGuard_at_pointer,Sem.run_bind,Sem.run_pure,Result.andThen_ok]
    rcases hob with⟨rfl,rfl⟩ | ⟨rfl,rfl⟩
    ·exact eql_ptr2 t e _ ht
    ·exact neq_ptr2 t e _ ht
  split at hl
  ·cases hl;exact⟨rfl,opOk_same h hd (hexec (hrun false (.inl ⟨rfl,rfl⟩))) (.e rfl (.v rfl) fun _=>rfl)⟩
  ·cases hl;exact⟨rfl,opOk_same h hd (hexec (hrun true (.inr ⟨rfl,rfl⟩))) (.e rfl (.v rfl) fun _=>rfl)⟩
  ·cases hl
 ·split at hl
  ·rename_i kd x' y' hk hx' hy'
   cases hl
   obtain⟨dx,hdx,hrx⟩:=SV.toE_rd hx' hx
   obtain⟨dy,hdy,hry⟩:=SV.toE_rd hy' hy
   obtain⟨dz,he,hix⟩:=hb
   simp only[E.eval,hdx,hdy,Option.bind_some] at he
   obtain⟨r,hrun,hr,h1⟩:=run_bin (P:=P) (x:=x) (y:=y) hk he hrx hry
   exact⟨rfl,opOk_same h hd (hexec hrun) (.e (d:=dz) (by simp[E.eval,hix]) hr fun _=>h1)⟩
  ·cases hl

theorem lun_sound {o:Oper} {op:UnOp} {t:TypeId} {x:Operand} {sx:SV} {ix:Nat} {r:LRes} (ho:o.op=.unOp op t x) (hl:lun op sx ix=some r) (hx:SRd w ρ env (a.eval x) sx) (h:Rep w0 X w a σ env ρ)
  (hd:∀d,o.dst=some d→d<σ.tmps.length) (hb:BindOk P env ix r.bind):r.upd=none∧OpOk P o a w w0 X (σ.put o.dst r.val) env:=by
 obtain⟨x',hx',rfl⟩:=Option.map_eq_some_iff.1 hl
 obtain⟨dx,hdx,hrx⟩:=SV.toE_rd hx' hx
 obtain⟨dz,he,hix⟩:=hb
 simp only[E.eval,hdx,Option.bind_some] at he
 unfold D.un at he
 split at he
 ·rename_i b
  cases he
  have hv:=hrx.v_eq
  exact⟨rfl,opOk_same h hd (v:=.bool (!b)) (by unfold execOp;simp[ho,hv,Op.unary]) (.e (by simp only[E.eval,hix]) (.v rfl) fun _=>rfl)⟩
 ·rename_i k n
  cases he
  have hv:=hrx.v_eq
  exact⟨rfl,opOk_same h hd (v:=.int k (k.wrap (0-n))) (by unfold execOp;simp[ho,hv,Op.unary,Op.intArith]) (.e (by simp only[E.eval,hix]) (.v rfl) fun _=>rfl)⟩
 ·cases he

theorem lconv_sound {o:Oper} {src dst:TypeId} {x:Operand} {sx:SV} {ix:Nat} {r:LRes} (ho:o.op=.convert src dst x) (hl:lconv P src dst sx ix=some r) (hx:SRd w ρ env (a.eval x) sx) (h:Rep w0 X w a σ env ρ)
  (hd:∀d,o.dst=some d→d<σ.tmps.length) (hb:BindOk P env ix r.bind):r.upd=none∧OpOk P o a w w0 X (σ.put o.dst r.val) env:=by
 unfold lconv at hl
 split at hl
 ·rename_i ds k hs hdst
  obtain⟨x',hx',rfl⟩:=Option.map_eq_some_iff.1 hl
  obtain⟨dx,hdx,hrx⟩:=SV.toE_rd hx' hx
  obtain⟨dz,he,hix⟩:=hb
  simp only[E.eval,hdx,Option.bind_some] at he
  unfold D.conv at he
  split at he
  ·rename_i k' n
   cases he
   have hv:=hrx.v_eq
   exact⟨rfl,opOk_same h hd (v:=.int k (k.wrap n)) (by unfold execOp;simp[ho,hv,convert,run_underlying hs,run_underlying hdst,Conv.intToInt]) (.e (by simp only[E.eval,hix]) (.v rfl) fun _=>rfl)⟩
  ·cases he
 ·cases hl

theorem lextract_sound {o:Oper} {x:Operand} {sx:SV} {i ix:Nat} {r:LRes} (ho:o.op=.extract x i) (hl:lextract sx i ix=some r) (hx:SRd w ρ env (a.eval x) sx) (h:Rep w0 X w a σ env ρ)
  (hd:∀d,o.dst=some d→d<σ.tmps.length) (hb:BindOk P env ix r.bind):r.upd=none∧OpOk P o a w w0 X (σ.put o.dst r.val) env:=by
 have hexec:∀{vs:Array Value} {v:Value},a.eval x=.tuple vs→vs[i]? = some v→(execOp a.eval o).run P w=.ok (.value v) w:=by
  intro vs v hv hi
  unfold execOp
  simp[ho,hv,Instr.extract,hi]
 unfold lextract at hl
 split at hl
 ·rename_i cs
  obtain⟨c,hc,rfl⟩:=Option.map_eq_some_iff.1 hl
  obtain⟨vs,hv,hlen,hr⟩:=hx.tup_inv
  have hi:i<vs.size:=by rw[hlen];exact(List.getElem?_eq_some_iff.1 hc).1
  exact⟨rfl,opOk_same h hd (hexec hv (Array.getElem?_eq_getElem hi)) (hr i _ c (Array.getElem?_eq_getElem hi) hc)⟩
 ·rename_i y s
  cases hl
  obtain⟨d,hd',hrd,_⟩:=hx.e_inv
  obtain⟨dz,he,hix⟩:=hb
  simp only[E.eval,hd',Option.bind_some] at he
  unfold D.tget at he
  split at he
  ·obtain⟨vs,hv,hlen,hr⟩:=hrd.tup_inv
   have hi:i<vs.size:=by rw[hlen];exact(List.getElem?_eq_some_iff.1 he).1
   exact⟨rfl,opOk_same h hd (hexec hv (Array.getElem?_eq_getElem hi)) (.e (d:=dz) (by simp[E.eval,hix]) (hr i _ dz (Array.getElem?_eq_getElem hi) he) (by simp))⟩
  ·cases he
 ·cases hl

theorem lfieldAddr_sound {o:Oper} {s:TypeId} {x:Operand} {f:Nat} {sx:SV} {r:LRes} (ho:o.op=.fieldAddr s x f) (hl:lfieldAddr P s sx f=some r) (hx:SRd w ρ env (a.eval x) sx) (h:Rep w0 X w a σ env ρ)
  (hd:∀d,o.dst=some d→d<σ.tmps.length):r.upd=none∧r.bind=none∧OpOk P o a w w0 X (σ.put o.dst r.val) env:=by
 unfold lfieldAddr at hl
 split at hl
 ·rename_i fs hs
  cases hf:fs[f]? with
  | none=>simp[hf] at hl
  | some fd=>
  cases hn:szT P fd.type with
  | none=>simp[hf,hn] at hl
  | some n=>
  simp only[hf,hn,Option.bind_some] at hl
  split at hl
  ·cases hl
  ·rename_i hn0
   have hexec:∀{b off:Nat},a.eval x=.pointer (some ⟨b,off,none⟩)→(execOp a.eval o).run P w=.ok (.value (.pointer (some ⟨b,off+fd.offset,none⟩))) w:=by
    intro b off hv
    unfold execOp
    simp[ho,hv,Instr.fieldAt,run_underlying hs,hf,Instr.sureAddr,fieldPlace,run_sizeOf hn,hn0,addr_add]
   split at hl
   ·cases hl
    exact⟨rfl,rfl,opOk_same h hd (hexec hx.addr_inv) .addr⟩
   ·cases hl
    obtain⟨m,k,hi,hv⟩:=hx.eaddr_inv
    exact⟨rfl,rfl,opOk_same h hd (hexec hv) (by rw[Nat.add_assoc];exact .eaddr hi)⟩
   ·rename_i y0 off0
    cases hl
    obtain⟨d,hd',hrd⟩:=hx.iptr_inv
    obtain⟨b,off,hv,hc⟩:=hrd.ptr_cells
    refine⟨rfl,rfl,opOk_same h hd (hexec hv) (.iptr hd' ?_)⟩
    have hc2:∀(j:Nat) (e:D),(d.cells.drop (off0+fd.offset))[j]? = some e→(d.cells.drop off0)[fd.offset+j]? = some e:=fun j e hj=>by
     rw[List.getElem?_drop] at hj ⊢
     rwa [Nat.add_assoc] at hj
    refine .ptr (val:=fun j=>((w.cell? ⟨b,off+fd.offset+j,none⟩).getD undef)) (fun j e hj=>(hc _ e (hc2 j e hj)).1) (fun j e hj=>?_) (fun j e hj=>?_) fun j e hj=>?_
    ·have:=(hc _ e (hc2 j e hj)).2.1
     rwa [←Nat.add_assoc] at this
    ·obtain⟨u,hu,_⟩:=(hc _ e (hc2 j e hj)).2.2
     rw[←Nat.add_assoc] at hu
     rw[hu];rfl
    ·obtain⟨u,hu,hr⟩:=(hc _ e (hc2 j e hj)).2.2
     rw[←Nat.add_assoc] at hu
     rw[hu];exact hr
   ·cases hl
 ·cases hl

theorem padd_rd {S:Sets}{v:Value}{dp d:D}{k:Nat}(h:RdD w S v dp)(hd:D.padd k dp=some d):∃b off,v=.pointer (some ⟨b,off,none⟩)∧RdD w S (.pointer (some ⟨b,off+k,none⟩)) d∧d.one=true:=by
 cases dp with
 | ptr cs=>
  simp only[D.padd] at hd
  cases hd
  obtain⟨b,off,hv,hc⟩:=h.ptr_cells
  refine⟨b,off,hv,?_,rfl⟩
  have hc2:∀(j:Nat) (e:D),(cs.drop k)[j]? = some e→cs[k+j]? = some e:=fun j e hj=>by
   rw[List.getElem?_drop] at hj
   exact hj
  refine .ptr (val:=fun j=>((w.cell? ⟨b,off+k+j,none⟩).getD undef)) (fun j e hj=>(hc _ e (hc2 j e hj)).1) (fun j e hj=>?_) (fun j e hj=>?_) fun j e hj=>?_
  ·have:=(hc _ e (hc2 j e hj)).2.1
   rwa [←Nat.add_assoc] at this
  ·obtain⟨u,hu,_⟩:=(hc _ e (hc2 j e hj)).2.2
   rw[←Nat.add_assoc] at hu
   rw[hu];rfl
  ·obtain⟨u,hu,hr⟩:=(hc _ e (hc2 j e hj)).2.2
   rw[←Nat.add_assoc] at hu
   rw[hu];exact hr
 | loc i off=>
  simp only[D.padd] at hd
  cases hd
  cases h with
  | loc hi=>exact⟨_,off,rfl,.loc hi,rfl⟩
 | _=>simp[D.padd] at hd

theorem lfieldE_sound {o:Oper} {s:TypeId} {x:Operand} {f ix:Nat} {sx:SV} {r:LRes} (ho:o.op=.fieldAddr s x f) (hl:lfieldE P s sx f ix=some r) (hx:SRd w ρ env (a.eval x) sx) (h:Rep w0 X w a σ env ρ)
  (hd:∀d,o.dst=some d→d<σ.tmps.length) (hb:BindOk P env ix r.bind):r.upd=none∧OpOk P o a w w0 X (σ.put o.dst r.val) env:=by
 unfold lfieldE at hl
 split at hl
 ·rename_i fs p s1 hs
  cases hf:fs[f]? with
  | none=>simp[hf] at hl
  | some fd=>
  cases hn:szT P fd.type with
  | none=>simp[hf,hn] at hl
  | some n=>
  simp only[hf,hn,Option.bind_some] at hl
  split at hl
  ·cases hl
  ·rename_i hn0
   cases hl
   obtain⟨dp,hpe,hrd,_⟩:=hx.e_inv
   obtain⟨d,he,hix⟩:=hb
   simp only[E.eval,hpe,Option.bind_some] at he
   obtain⟨b,off,hv,hrd',h1⟩:=padd_rd hrd he
   refine⟨rfl,opOk_same h hd (v:=.pointer (some ⟨b,off+fd.offset,none⟩)) ?_ (.e (d:=d) (by simp[E.eval,hix]) hrd' fun _=>h1)⟩
   unfold execOp
   simp[ho,hv,Instr.fieldAt,run_underlying hs,hf,Instr.sureAddr,fieldPlace,run_sizeOf hn,hn0,addr_add]
 ·cases hl

end
end
end Go.Am

/-
 More operations: elements,nil checks,lengths,new variables,calls.
-/
namespace Go.Am
noncomputable section

def toEAll:List SV→Option (List E)
 | []=>some []
 | s :: r=>match s.toE,toEAll r with | some x,some y=>some (x :: y) | _,_=>none

def scalars (P:Program):List TypeId→Option (List Bool)
 | []=>some []
 | t :: r=>match aggT P t,scalars P r with | some b,some l=>some ((!b) :: l) | _,_=>none

def tupleSV (x:E):Nat→List Bool→List SV
 | _,[]=>[]
 | i,b :: r=>.e (.tget i x) b :: tupleSV x (i+1) r

def resSV (x:E):List Bool→SV
 | [b]=>.e x b
 | rs=>.tup (tupleSV x 0 rs)

def lcall (P:Program)(f:FuncId)(args:List SV)(obj:Nat→Option SObj)(ix:Nat):Option LRes:=
 match P.funcs[f]? with
 | some fn => if (fn.name == "runtime.NumGoroutine") = true ∨ fn.body.isNone = true then none else
  match scalars P fn.resultTypes.toList,toEAll args,obj HID with
  | some rs,some xs,some (.store cf h)=>if cf.locs.contains f then some { val:=resSV (.sym ix) rs,bind:=some (.call [] f (.const (.st [])) (xs.map E.noid) rs) } else if cf.wr.contains f then(if cf.ro then none else some { val:=resSV (.tget 0 (.sym ix)) rs,upd:=some (HID,.store cf (.tget 1 (.sym ix))),bind:=some (.wcall [] f h xs rs) })
   else some { val:=resSV (.sym ix) rs,bind:=some (.call [] f h xs rs) }
  | _,_,_=>none
 | none=>none

def rsOfType (P:Program)(t:TypeId):Option (List Bool):=
 match P.underlying t with
 | some (.tuple ts)=>scalars P ts.toList
 | some _=>scalars P [t]
 | none=>none

def lcallv (P:Program)(x:E)(args:List SV)(o:Oper)(obj:Nat→Option SObj)(ix:Nat):Option LRes:=
 match rsOfType P o.type,toEAll args,obj HID with
 | some rs,some xs,some (.store cf h)=>if cf.wr.contains (1000000+o.dst.getD 999999) then(if cf.ro then none else some { val:=resSV (.tget 0 (.sym ix)) rs,upd:=some (HID,.store cf (.tget 1 (.sym ix))),bind:=some (.wcallv [] x h xs rs) })
   else some { val:=resSV (.sym ix) rs,bind:=some (.callv [] x h xs rs) }
 | _,_,_=>none

def lmkfn (fn:Fn)(first caps:List SV)(ix:Nat):Option LRes:=
 match fn,SV.toTs first,SV.toTs caps with
 | .func f,some x,some y=>some { val:=.e (.sym ix) true,bind:=some (.ev (.mkfn f x y)) }
 | _,_,_=>none

section
variable {P:Program} {w w0:World} {X:Ent} {a:Act} {σ:SState} {env:List D} {ρ:Rho}

theorem lindexAddr_sound {o:Oper} {t:TypeId} {x i:Operand} {sx si:SV} {ix:Nat} {r:LRes} (ho:o.op=.indexAddr t x i) (hl:lindexAddr P t sx si σ.obj ix=some r) (hx:SRd w ρ env (a.eval x) sx) (hi:SRd w ρ env (a.eval i) si) (h:Rep w0 X w a σ env ρ)
  (hd:∀d,o.dst=some d→d<σ.tmps.length) (hb:BindOk P env ix r.bind):r.upd=none∧OpOk P o a w w0 X (σ.put o.dst r.val) env:=by
 unfold lindexAddr at hl
 split at hl
 ·rename_i e i' ht hi'
  cases hn:szT P e with
  | none=>simp[hn] at hl
  | some n=>
  simp only[hn,Option.bind_some] at hl
  have he:P.elem t=e:=by simp[Program.elem,ht]
  obtain⟨di,hdi,hri⟩:=SV.toE_rd hi' hi
  have hexec:∀{b off len cap:Nat} {k:IntKind} {m:Nat},a.eval x=.slice (some ⟨b,off,none⟩) len cap→a.eval i=.int k m→m<len→(execOp a.eval o).run P w=.ok (.value (.pointer (some ⟨b,off+m*n,none⟩))) w:=by
   intro b off len cap k m hv hiv hm
   have hr:=run_indexAt_slice (P:=P) w t ⟨b,off,none⟩ len cap k m (by rw[he];exact ht)
   rw[if_pos ⟨by omega,by omega⟩,he,run_sizeOf hn] at hr
   simp only[Result.andThen_ok,Int.toNat_natCast,addr_add] at hr
   unfold execOp
   simp only[ho,hv,hiv,Sem.run_bind,hr,Result.andThen_ok,Sem.run_pure]
  split at hl
  ·rename_i ob
   split at hl
   ·rename_i l sz hob
    split at hl
    ·rename_i hsz
     cases hl
     obtain⟨vs,ty,es,hh,hxl,hz,hvl,hr,hval,hmx,hS⟩:=h.objs ob _ hob
     obtain⟨d,hev,hix⟩:=hb
     simp only[E.eval,hxl,hdi,Option.bind_some] at hev
     unfold D.idx at hev
     split at hev
     ·rename_i es' k m hes
      cases hes
      split at hev
      ·rename_i hm0
       have hml:m.toNat<es.length:=(List.getElem?_eq_some_iff.1 hev).1
       have hmm:m=((m.toNat:Nat):Int):=by omega
       have hv:a.eval x=.slice (some ⟨ρ.blk ob,0,none⟩) es.length es.length:=hx.slc_inv.trans hval
       have hiv:a.eval i=.int k (m.toNat:Nat):=by rw[←hmm];exact hri.v_eq
       have hp:SRd w ρ env (.pointer (some ⟨ρ.blk ob,m.toNat*n+0,none⟩)) (.eaddr ob i' n 0):=.eaddr (k:=k) (by rw[hdi,←hmm])
       refine⟨rfl,opOk_same h hd (hexec hv hiv hml) ?_⟩
       simpa[Nat.add_comm] using hp
      ·cases hev
     ·cases hev
    ·cases hl
   ·cases hl
  ·rename_i hns
   obtain⟨l,hl',rfl⟩:=Option.map_eq_some_iff.1 hl
   obtain⟨dl,hdl,hrl⟩:=SV.toE_rd hl' hx
   obtain⟨d,hev,hix⟩:=hb
   simp only[E.eval,hdl,hdi,Option.bind_some] at hev
   unfold D.eaddr at hev
   split at hev
   ·rename_i es k m
    split at hev
    ·rename_i hm0
     obtain⟨el,hel,hev⟩:=Option.bind_eq_some_iff.1 hev
     split at hev
     ·rename_i hcl
      cases hev
      have hml:m.toNat<es.length:=(List.getElem?_eq_some_iff.1 hel).1
      have hmm:m=((m.toNat:Nat):Int):=by omega
      have hiv:a.eval i=.int k (m.toNat:Nat):=by rw[←hmm];exact hri.v_eq
      generalize hv:a.eval x=v at hrl
      cases hrl with
      | nil=>simp at hel
      | emp _=>simp at hel
      | @lst b off len cap size _ val hlen hc hm hz ho1 hS hw hr=>
       have hsn:size=n:=by rw[←hz _ _ hel];exact hcl
       subst hsn
       refine⟨rfl,opOk_same h hd (hexec hv hiv (by omega)) (.e (d:=.ptr el.cells) (by simp[E.eval,hix]) ?_ fun _=>rfl)⟩
       exact .ptr (val:=val m.toNat) (fun j e hj=>ho1 _ _ j e hel (by simpa using hj)) (fun j e hj=>hS _ _ j e hel (by simpa using hj)) (fun j e hj=>hw _ _ j e hel (by simpa using hj)) fun j e hj=>hr _ _ j e hel (by simpa using hj)
     ·cases hev
    ·cases hev
   ·rename_i j off len k m
    split at hev
    ·rename_i hm0
     cases hev
     have hmm:m=((m.toNat:Nat):Int):=by omega
     have hiv:a.eval i=.int k (m.toNat:Nat):=by rw[←hmm];exact hri.v_eq
     generalize hv:a.eval x=v at hrl
     cases hrl with
     | sl hj hle hc h0=>exact⟨rfl,opOk_same h hd (hexec hv hiv (by omega)) (.e (d:=.loc j (off+m.toNat*n)) (by simp[E.eval,hix]) (.loc hj) fun _=>rfl)⟩
    ·cases hev
   ·cases hev
 ·rename_i len e i' ht hi'
  obtain⟨n,hn,hl⟩:=Option.bind_eq_some_iff.1 hl
  obtain⟨p,hp,rfl⟩:=Option.map_eq_some_iff.1 hl
  have he:P.elem t=e:=by simp[Program.elem,ht]
  have hlen:P.arrayLen t=len:=by simp[Program.arrayLen,ht]
  obtain⟨di,hdi,hri⟩:=SV.toE_rd hi' hi
  obtain⟨dp,hdp,hrp⟩:=SV.toE_rd hp hx
  obtain⟨d,hev,hix⟩:=hb
  simp only[E.eval,hdp,hdi,Option.bind_some,D.m4,D.elemA] at hev
  split at hev
  ·rename_i k m
   split at hev
   ·rename_i hm0
    have hmm:m=((m.toNat:Nat):Int):=by omega
    have hiv:a.eval i=.int k (m.toNat:Nat):=by rw[←hmm];exact hri.v_eq
    obtain⟨b,off,hv,hrd,h1⟩:=padd_rd hrp hev
    have hrun:(execOp a.eval o).run P w=.ok (.value (.pointer (some ⟨b,off+m.toNat*n,none⟩))) w:=by
     have hr:=run_indexAt_array (P:=P) w t ⟨b,off,none⟩ k (m.toNat:Nat) (by rw[he,hlen];exact ht)
     rw[hlen,if_pos ⟨by omega,by omega⟩,he,run_sizeOf hn] at hr
     simp only[Result.andThen_ok,Int.toNat_natCast,addr_add] at hr
     unfold execOp
     simp only[ho,hv,hiv,Sem.run_bind,hr,Result.andThen_ok,Sem.run_pure]
    exact⟨rfl,opOk_same h hd hrun (.e (by simp[E.eval,hix]) hrd fun _=>h1)⟩
   ·cases hev
  ·cases hev
 ·cases hl

theorem lnil_sound {o:Oper} {x:Operand} {sx:SV} {ix:Nat} {r:LRes} (ho:o.op=.nilCheck x) (hl:lnil sx ix=some r) (hx:SRd w ρ env (a.eval x) sx) (h:Rep w0 X w a σ env ρ)
  (hd:∀d,o.dst=some d→d<σ.tmps.length) (hb:BindOk P env ix r.bind):r.upd=none∧OpOk P o a w w0 X (σ.put o.dst r.val) env:=by
 have hexec:∀{ad:Addr},a.eval x=.pointer (some ad)→(execOp a.eval o).run P w=.ok (.value (.pointer (some ad))) w:=by
  intro ad hv
  unfold execOp
  simp only[ho,hv]
  rfl
 unfold lnil at hl
 split at hl
 ·cases hl;have hv:=hx.addr_inv;exact⟨rfl,opOk_same h hd (hexec hv) (hv ▸ hx)⟩
 ·cases hl;obtain⟨m,k,_,hv⟩:=hx.eaddr_inv;exact⟨rfl,opOk_same h hd (hexec hv) (hv ▸ hx)⟩
 ·rename_i fn cs
  obtain⟨vs,hv,_⟩:=hx.func_inv
  split at hl
  ·cases hl
  ·rename_i hne
   cases hl
   refine⟨rfl,opOk_same h hd (v:=.func fn #[] vs) ?_ (hv ▸ hx)⟩
   unfold execOp
   simp only[ho,hv]
   cases fn <;> first | rfl | exact absurd rfl (hne _)
 ·cases hl
  obtain⟨d,_,hrd⟩:=hx.iptr_inv
  obtain⟨b,off,hv,_⟩:=hrd.ptr_cells
  exact⟨rfl,opOk_same h hd (hexec hv) (hv ▸ hx)⟩
 ·cases hl
  obtain⟨d,hd',hrd,_⟩:=hx.e_inv
  obtain⟨dz,he,hix⟩:=hb
  simp only[E.eval,hd',Option.bind_some] at he
  unfold D.nn at he
  split at he
  ·cases he
   obtain⟨b,off,hv,_⟩:=hrd.ptr_cells
   exact⟨rfl,opOk_same h hd (hexec hv) (.e (d:=_) (show(E.sym ix).eval env=_ from hix) (by rw[←hv];exact hrd) fun _=>rfl)⟩
  ·cases he
   generalize hv:a.eval x=v at hrd
   cases hrd with
   | loc hi=>exact⟨rfl,opOk_same h hd (hexec hv) (.e (by simp only[E.eval,hix]) (.loc hi) fun _=>rfl)⟩
  ·cases he
   have hk:=hrd
   generalize hv:a.eval x=v at hrd
   cases hrd with
   | fn h1 h2 h3 h4=>
    refine⟨rfl,opOk_same h hd (v:=a.eval x) ?_ (.e (by simp only[E.eval,hix]) hk fun _=>rfl)⟩
    unfold execOp
    simp only[ho,hv]
    rfl
  ·cases he
 ·cases hl

theorem exec_len {o:Oper}{t:TypeId}{x:Operand}{v:Value}(ho:o.op=.call { callee:=.builtin .len,args:=#[x],argTypes:=#[t] })(hr:(Builtin.len_ #[t] o.type #[a.eval x]).run P w=.ok v w):(execOp a.eval o).run P w=.ok (.value v) w:=by
 unfold execOp
 simp only[ho,resolve,invoke,builtin,Sem.run_bind,Sem.run_pure,Result.andThen_ok,List.map_toArray,List.map_cons,List.map_nil,hr]

theorem llen_sound {o:Oper} {t:TypeId} {x:Operand} {sx:SV} {ix:Nat} {r:LRes} (ho:o.op=.call { callee:=.builtin .len,args:=#[x],argTypes:=#[t] }) (hl:llen P t sx σ.obj ix=some r) (hx:SRd w ρ env (a.eval x) sx) (h:Rep w0 X w a σ env ρ)
  (hd:∀d,o.dst=some d→d<σ.tmps.length) (hb:BindOk P env ix r.bind):r.upd=none∧OpOk P o a w w0 X (σ.put o.dst r.val) env:=by
 unfold llen at hl
 split at hl
 ·rename_i e ht
  have he:P.elem t=e:=by simp[Program.elem,ht]
  have hexec:∀{ad:Option Addr} {n c:Nat},a.eval x=.slice ad n c→(execOp a.eval o).run P w=.ok (.value (.int .i64 n)) w:=by
   intro ad n c hv
   refine exec_len ho ?_
   rw[hv]
   exact run_len_slice (P:=P) w t o.type ad n c (by rw[he];exact ht)
  have fin:∀{ad:Option Addr} {n c:Nat} {es:List D},a.eval x=.slice ad n c→n=es.length→env[ix]? = some (.v (.int .i64 es.length))→OpOk P o a w w0 X (σ.put o.dst (.e (.sym ix) true)) env:=by
   intro ad n c es hv hn hix
   exact opOk_same h hd (hexec hv) (.e (d:=.v (.int .i64 n)) (by rw[E.eval,hix,hn]) (.v rfl) fun _=>rfl)
  split at hl
  ·rename_i ob
   split at hl
   ·rename_i l sz hob
    cases hl
    obtain⟨vs,ty,es,hh,hxl,hz,hvl,hr,hval,hmx,hS⟩:=h.objs ob _ hob
    obtain⟨d,hev,hix⟩:=hb
    simp only[E.eval,hxl,Option.bind_some,D.lenL] at hev
    cases hev
    exact⟨rfl,fin (hx.slc_inv.trans hval) rfl hix⟩
   ·cases hl
  ·obtain⟨l,hl',rfl⟩:=Option.map_eq_some_iff.1 hl
   obtain⟨dl,hdl,hrl⟩:=SV.toE_rd hl' hx
   obtain⟨d,hev,hix⟩:=hb
   simp only[E.eval,hdl,Option.bind_some] at hev
   unfold D.lenL at hev
   split at hev
   ·cases hev
    obtain⟨ad,n,c,hv,hn⟩:=hrl.lst_form
    exact⟨rfl,fin hv hn hix⟩
   ·cases hev
    generalize hv:a.eval x=v at hrl
    cases hrl with
    | sl hi hle hc h0=>exact⟨rfl,opOk_same h hd (hexec hv) (.e (by simp only[E.eval,hix]) (.v rfl) fun _=>rfl)⟩
   ·cases hev
    generalize hv:a.eval x=v at hrl
    cases hrl with
    | snil=>exact⟨rfl,opOk_same h hd (hexec hv) (.e (by simp only[E.eval,hix];rfl) (.v rfl) fun _=>rfl)⟩
   ·cases hev
 ·rename_i ht
  obtain⟨l,hl',rfl⟩:=Option.map_eq_some_iff.1 hl
  obtain⟨dl,hdl,hrl⟩:=SV.toE_rd hl' hx
  obtain⟨d,hev,hix⟩:=hb
  simp only[E.eval,hdl,Option.bind_some] at hev
  unfold D.lenS at hev
  split at hev
  ·rename_i s
   cases hev
   have hv:=hrl.v_eq
   exact⟨rfl,opOk_same h hd (exec_len ho (v:=.int .i64 s.size) (by rw[hv];simp[Builtin.len_,run_underlying ht,goInt])) (.e (by simp only[E.eval,hix]) (.v rfl) fun _=>rfl)⟩
  ·cases hev
 ·cases hl

theorem newBox {o:Oper} {d:Nat} {vs:Array Value} {cs:List SV} {ty:TypeId} (h:Rep w0 X w a σ env ρ) (hdst:o.dst=some d) (hd:d<σ.tmps.length) (hdm:d<σ.mem.length) (hfree:σ.obj d=none) (hav:σ.avoids d)
  (hl:vs.size=cs.length) (hone:∀(i:Nat) (v:Value),vs[i]? = some v→v.oneCell'=true) (hr:∀(i:Nat) (v:Value) (c:SV),vs[i]? = some v→cs[i]? = some c→SRd w ρ env v c) (hcav:SV.avoidsAll d cs=true)
  (hrun:(execOp a.eval o).run P w=.ok (.value (.pointer (some ⟨w.heap.size,0,none⟩))) (w.alloc (.cells vs ty))):OpOk P o a w w0 X ((σ.setObj d (some (.box cs))).put o.dst (.addr d 0)) env:=by
 have hk:Keeps ρ.S w (w.alloc (.cells vs ty)):=Keeps.alloc h.cells _
 have hrep:=h.withObj (o:=d) (x:=.box cs) (v:=undef) hdm hfree hav hk (fun b hb=>heapOld w _ b hb) rfl ⟨rfl,Nat.le_refl _⟩ rfl (by simp) ?_ ?_
 ·refine opOk_value hrun (hrep.put (by rw[hdst];intro d' e;cases e;rw[SState.tmps_setObj];exact hd) ?_)
  have hbk:(ρ.withObj d w.heap.size undef).blk d=w.heap.size:=by simp[Rho.withObj]
  have hp:SRd (w.alloc (.cells vs ty)) (ρ.withObj d w.heap.size undef) env (.pointer (some ⟨(ρ.withObj d w.heap.size undef).blk d,0,none⟩)) (.addr d 0):=.addr
  rwa [hbk] at hp
 ·refine⟨vs,ty,?_,hl,hone,fun i v c hv hc=>(hr i v c hv hc).keep hk (ρ.withObj_more _ _ _) fun o' e=>by subst e;exact SV.avoidsAll_get hcav hc,fun off hs=>?_⟩
  ·simp only[Rho.withObj,if_true]
   exact heap_alloc_new w _
  ·have:=h.cells _ off hs
   simp[Rho.withObj] at this
 ·intro b hb
  simpa[objBlk,Rho.withObj] using hb.symm

theorem constSV_avoids (d:Nat)(v:Value):(constSV v).avoids d=true:=by unfold constSV;split <;> rfl

theorem zero_avoids (d:Nat):∀(l:List Value),SV.avoidsAll d (l.map constSV)=true
 | []=>rfl
 | v :: r=>by simp[SV.avoidsAll,constSV_avoids,zero_avoids d r]

def zeroOnes (P:Program)(t:TypeId):Bool:=match(P.info? t).bind (·.zero) with | some z=>z.cells.toList.all (·.oneCell') | none=>false

theorem lalloc_sound {o:Oper} {t:TypeId} {r:LRes} (ho:o.op=.alloc t) (hz1:zeroOnes P t=true) (hl:lalloc P t o.dst=some r) (h:Rep w0 X w a σ env ρ) (hd:∀d,o.dst=some d→d<σ.tmps.length) (hm:σ.mem.length=σ.tmps.length)
  (hfree:∀d,o.dst=some d→σ.obj d=none∧σ.avoids d):∃d x,o.dst=some d∧r.upd=some (d,x)∧r.bind=none∧OpOk P o a w w0 X ((σ.setObj d (some x)).put o.dst r.val) env:=by
 unfold lalloc at hl
 split at hl
 ·rename_i d cs hdst hz
  cases hl
  unfold zeroSVs at hz
  obtain⟨z,hz0,rfl⟩:=Option.map_eq_some_iff.1 hz
  refine⟨d,_,hdst,rfl,rfl,?_⟩
  have hd':=hd d hdst
  obtain⟨hf,hav⟩:=hfree d hdst
  have hrun:(execOp a.eval o).run P w=.ok (.value (.pointer (some ⟨w.heap.size,0,none⟩))) (w.alloc (.cells z.cells t)):=by
   unfold execOp
   simp only[ho,Instr.alloc,Sem.run_bind,run_zeroValue hz0,Result.andThen_ok,newVar,newRow,Sem.run_pure,run_newObj]
   rfl
  refine newBox (vs:=z.cells) (cs:=z.cells.toList.map constSV) h hdst hd' (Nat.lt_of_lt_of_eq hd' hm.symm) hf hav (by simp) (fun i v hv=>?_) (fun i v c hv hc=>?_) (zero_avoids d _) hrun
  ·unfold zeroOnes at hz1
   rw[hz0] at hz1
   simp only[List.all_eq_true] at hz1
   exact hz1 v (List.mem_of_getElem? (by simpa using hv))
  ·simp only[List.getElem?_map] at hc
   have hv':z.cells.toList[i]? = some v:=by simpa using hv
   rw[hv'] at hc
   cases hc
   exact constSV_rd v
 ·cases hl

theorem SV.split_avoids {n ix:Nat}{sv:SV}{cs:List SV}{b:Option Bind}{d:Nat}(h:sv.split n ix=some (cs,b))(ha:sv.avoids d=true):SV.avoidsAll d cs=true:=by
 have all:∀(l:List SV),(∀c,c∈l→c.avoids d=true)→SV.avoidsAll d l=true:=by
  intro l
  induction l with
  | nil=>intro _;rfl
  | cons c r ih=>intro hh;simp only[SV.avoidsAll,Bool.and_eq_true];exact⟨hh c (by simp),ih fun x hx=>hh x (by simp[hx])⟩
 unfold SV.split at h
 split at h
 ·split at h
  ·cases h;simpa[SV.avoids] using ha
  ·cases h
 ·split at h
  ·cases h
   refine all _ fun c hc=>?_
   simp only[List.mem_map] at hc
   obtain⟨_,_,rfl⟩:=hc
   rfl
  ·cases h
 ·cases h
  refine all _ fun c hc=>?_
  simp only[List.mem_map] at hc
  obtain⟨_,_,rfl⟩:=hc
  rfl
 ·cases h

theorem SV.cellsOf_avoids {agg : Bool} {n ix : Nat} {obj : Nat → Option SObj} {sv : SV} {cs : List SV} {b : Option Bind} {d : Nat} (h : sv.cellsOf agg n ix obj = some (cs, b)) (ha : sv.avoids d = true) : SV.avoidsAll d cs = true := by
  unfold SV.cellsOf at h
  cases agg with
  | true => simp only [if_true] at h; exact SV.split_avoids h ha
  | false =>
    simp only [Bool.false_eq_true, if_false] at h
    split at h <;> first
      | (cases h; simp only [SV.avoidsAll, Bool.and_true]; first | exact ha | rfl)
      | (split at h
         · cases h; simpa [SV.avoidsAll] using ha
         · cases h)
      | cases h

theorem lbox_sound {o:Oper} {t:TypeId} {x:Operand} {sx:SV} {ix:Nat} {r:LRes} (ho:o.op=.box t x) (hl:lbox P t sx o.dst σ.obj ix=some r) (hx:SRd w ρ env (a.eval x) sx) (h:Rep w0 X w a σ env ρ) (hd:∀d,o.dst=some d→d<σ.tmps.length) (hm:σ.mem.length=σ.tmps.length)
  (hfree:∀d,o.dst=some d→σ.obj d=none∧σ.avoids d∧sx.avoids d=true) (hb:BindOk P env ix r.bind):∃d x,o.dst=some d∧r.upd=some (d,x)∧OpOk P o a w w0 X ((σ.setObj d (some x)).put o.dst r.val) env:=by
 unfold lbox at hl
 split at hl
 ·rename_i d agg n hdst hg hn
  obtain⟨⟨cs,b⟩,hcs,rfl⟩:=Option.map_eq_some_iff.1 hl
  refine⟨d,_,hdst,rfl,?_⟩
  have hd':=hd d hdst
  obtain⟨hf,hav,hxav⟩:=hfree d hdst
  obtain⟨h1,h2,h3⟩:=SV.cellsOf_rd (P:=P) h.objs hcs hb hx
  have hrun:(execOp a.eval o).run P w=.ok (.value (.pointer (some ⟨w.heap.size,0,none⟩))) (w.alloc (.cells (a.eval x).cells t)):=by
   unfold execOp
   simp only[ho,Instr.box,Sem.run_bind,Result.andThen_ok,newVar,newRow,Sem.run_pure,run_newObj]
   rfl
  exact newBox h hdst hd' (Nat.lt_of_lt_of_eq hd' hm.symm) hf hav h1 h2 h3 (SV.cellsOf_avoids hcs hxav) hrun
 ·cases hl

theorem toEAll_rd:∀{svs:List SV} {xs:List E} {vs:List Value},toEAll svs=some xs→vs.length=svs.length→(∀(i:Nat) (v:Value) (c:SV),vs[i]? = some v→svs[i]? = some c→SRd w ρ env v c) →
  ∃ds,evalAll env xs=some ds∧vs.length=ds.length∧∀(i:Nat) (v:Value) (d:D),vs[i]? = some v→ds[i]? = some d→RdD w ρ.S v d
 | [],xs,vs,h,hl,_=>by
  simp[toEAll] at h;subst h
  have:vs=[]:=List.eq_nil_of_length_eq_zero (by simpa using hl)
  subst this
  exact⟨[],rfl,rfl,by simp⟩
 | s :: r,xs,vs,h,hl,hh=>by
  match vs,hl with
  | v :: vs,hl=>
   simp only[toEAll] at h
   split at h
   ·rename_i y z hy hz
    cases h
    obtain⟨d,hd,hrd⟩:=SV.toE_rd hy (hh 0 v s rfl rfl)
    obtain⟨ds,he,hdl,hds⟩:=toEAll_rd (vs:=vs) hz (by simpa using hl) fun i v c hv hc=>hh (i+1) v c (by simpa using hv) (by simpa using hc)
    refine⟨d :: ds,by simp[evalAll,hd,he],by simp[hdl],fun i v' d' hv hd'=>?_⟩
    cases i with
    | zero=>simp at hv hd';subst hv hd';exact hrd
    | succ i=>exact hds i v' d' (by simpa using hv) (by simpa using hd')
   ·cases h

theorem tupleSV_get (x:E):∀(rs:List Bool) (k i:Nat) (c:SV),(tupleSV x k rs)[i]? = some c→∃b,rs[i]? = some b∧c=.e (.tget (k+i) x) b
 | [],_,_,_,h=>by simp[tupleSV] at h
 | b :: r,k,0,c,h=>by simp[tupleSV] at h;exact⟨b,rfl,h.symm⟩
 | b :: r,k,i+1,c,h=>by
  obtain⟨b',h1,h2⟩:=tupleSV_get x r (k+1) i c (by simpa[tupleSV] using h)
  exact⟨b',by simpa using h1,by rw[h2,show k+1+i=k+(i+1) from by omega]⟩

theorem tupleSV_length (x:E):∀(rs:List Bool) (k:Nat),(tupleSV x k rs).length=rs.length
 | [],_=>rfl
 | _ :: r,k=>by simp[tupleSV,tupleSV_length x r]

theorem fitsAll_get:∀{rs:List Bool} {ds:List D},fitsAll rs ds=true→rs.length=ds.length∧∀(i:Nat) (b:Bool) (d:D),rs[i]? = some b→ds[i]? = some d→b=true→d.one=true
 | [],[],_=>⟨rfl,by simp⟩
 | [],_ :: _,h=>by simp[fitsAll] at h
 | _ :: _,[],h=>by simp[fitsAll] at h
 | b :: r,d :: s,h=>by
  simp only[fitsAll,Bool.and_eq_true,Bool.or_eq_true,Bool.not_eq_true'] at h
  obtain⟨h1,h2⟩:=fitsAll_get h.2
  refine⟨by simp[h1],fun i b' d' hb hd ht=>?_⟩
  cases i with
  | zero=>simp at hb hd;subst hb hd;exact h.1.resolve_left (by simp[ht])
  | succ i=>exact h2 i b' d' (by simpa using hb) (by simpa using hd) ht

theorem resSV_rd {x:E}{rs:List Bool}{v:Value}{d:D}(hx:x.eval env=some d)(hr:RdD w ρ.S v d)(hfit:d.fits rs=true):SRd w ρ env v (resSV x rs):=by
 unfold resSV
 split
 ·rename_i b
  simp only[D.fits,Bool.or_eq_true,Bool.not_eq_true'] at hfit
  exact .e hx hr fun hbt=>hfit.resolve_left (by simp[hbt])
 ·rename_i hne
  have hfit':∃ds,d=.tup ds∧fitsAll rs ds=true:=by
   unfold D.fits at hfit
   split at hfit
   ·exact(hne _ rfl).elim
   ·split at hfit
    ·exact⟨_,rfl,hfit⟩
    ·cases hfit
  obtain⟨ds,rfl,hfa⟩:=hfit'
  obtain⟨hfl,hfo⟩:=fitsAll_get hfa
  obtain⟨vs,rfl,hvl,hvr⟩:=hr.tup_inv
  refine .tup (by rw[tupleSV_length,hvl,hfl]) fun i v c hv hc'=>?_
  obtain⟨b,hb',rfl⟩:=tupleSV_get x rs 0 i c hc'
  have hi:i<ds.length:=by rw[←hfl];exact(List.getElem?_eq_some_iff.1 hb').1
  exact .e (d:=ds[i]) (by simp[E.eval,hx,D.tget,hi]) (hvr i v _ hv (List.getElem?_eq_getElem hi)) fun hbt=>hfo i b _ hb' (List.getElem?_eq_getElem hi) hbt

theorem Rep.behind {w':World}{S':Sets}(h:Rep w0 X w a σ env ρ)(hb:Blw w.heap.size w w')(h1:ρ.S≤S')(hn:S'.n=ρ.S.n)(h2:∀b o,S' b o→ρ.S b o∨w.heap.size≤b)(h3:∀b o,S' b o→b<w'.heap.size):Rep w0 X w' a σ env { ρ with S:=S' }:=by
 refine h.move (fun b o hs=>hb.cell (p:=⟨b,o,none⟩) (h.cells b o hs)) ⟨⟨fun _ _=>rfl,fun _ _=>rfl,h1⟩,fun _=>hn,fun _=>rfl⟩ (fun o x b ho hx=>hb.block b (h.own o x b ho hx).2) (fun o x b off ho hx hs=>?_) h3 hb.os hb.tl hb.output hb.size (fun b hlt _=>hb.block b (Nat.lt_of_lt_of_le hlt h.grown)) (fun b o hs=>(h2 b o hs).elim .inl fun e=>.inr (Nat.le_trans h.grown e))
 rcases h2 b off hs with h4 | h4
 ·exact h4
 ·have:=(h.own o x b ho hx).2;omega

theorem foot_lt (h:Rep w0 X w a σ env ρ){cf:StCfg}{x:E}(hx:σ.obj HID=some (.store cf x)):∀b,ρ.foot b→b<w.heap.size:=fun b hb=>(h.own HID _ b hx hb).2

theorem evalAll_noid {env:List D}:∀{xs:List E} {ds:List D},evalAll env (xs.map E.noid)=some ds→evalAll env xs=some ds∧noids ds=true
 | [],ds,h=>by
  simp only[List.map_nil,evalAll,Option.some.injEq] at h
  subst h
  exact⟨rfl,rfl⟩
 | x :: r,ds,h=>by
  simp only[List.map_cons,evalAll,Option.bind_eq_some_iff,Option.map_eq_some_iff] at h
  obtain⟨d,h1,ds',h2,rfl⟩:=h
  obtain⟨g1,g2⟩:=evalAll_noid h2
  simp only[E.eval,Option.bind_eq_some_iff] at h1
  obtain⟨d0,k1,_,_,_,_,_,_,k2⟩:=h1
  simp only[D.m4] at k2
  split at k2
  ·rename_i hn
   cases k2
   exact⟨by simp[evalAll,k1,g1],by simp[noids,hn,g2]⟩
  ·cases k2

theorem lcall_soundG {o : Oper} {f : FuncId} {vals : Array Value} {svs : List SV} {ix : Nat} {r : LRes} (hrun : ∀ fn, P.funcs[f]? = some fn → (fn.name == "runtime.NumGoroutine") = false → fn.body.isNone = false → (execOp a.eval o).run P w = .ok (.enter f vals) w)
  (hl:lcall P f svs σ.obj ix=some r) (hlen:vals.size=svs.length) (hx:∀(i:Nat) (x:Value) (s:SV),vals[i]? = some x→svs[i]? = some s→SRd w ρ env x s) (h:Rep w0 X w a σ env ρ) (hd:∀d,o.dst=some d→d<σ.tmps.length)
  (hb:BindOk P env ix r.bind):(r.upd=none∧OpOk P o a w w0 X (σ.put o.dst r.val) env)∨∃ob z,r.upd=some (ob,z)∧OpOk P o a w w0 X ((σ.setObj ob (some z)).put o.dst r.val) env:=by
 unfold lcall at hl
 split at hl
 ·rename_i fn hf
  split at hl
  ·cases hl
  ·rename_i hnb
   simp only[not_or,Bool.not_eq_true] at hnb
   replace hrun:=hrun fn hf hnb.1 hnb.2
   split at hl
   ·rename_i rs xs cf hE hrs hxs hob
    obtain⟨bs,hbe,hst,_⟩:=h.objs _ _ hob
    obtain⟨ds',hev',hdl,hrd⟩:=toEAll_rd (vs:=vals.toList) hxs (by simpa using hlen) (fun i v s hv hs=>hx i v s (by simpa using hv) hs)
    split at hl
    ·cases hl
     refine .inl ⟨rfl,fun Q=>?_⟩
     obtain⟨d,hix,hbo⟩:=hb
     obtain⟨st,ds,hse,hev,hspec,hfit⟩:=hbo (by intro p hp;cases hp)
     cases hse
     obtain⟨hev,hno⟩:=evalAll_noid hev
     rw[hev] at hev'
     cases hev'
     rw[hrun]
     refine⟨fun e=>(by cases e),callsIn_wide.2 ?_⟩
     refine(FSpecO.ofNone hspec hno bs w ρ.S ρ.foot bs vals rfl hst (h.holdOk hob) (foot_lt h hob) h.cells (by simpa using hdl) (fun i v x hv hx'=>hrd i v x (by simpa using hv) hx')).mono ?_
     rintro e w' ⟨v,S',⟨rfl,hr⟩,hbelow,hs1,hsn,hs2,hs3⟩
     exact⟨_,(h.behind hbelow hs1 hsn hs2 hs3).put hd (resSV_rd (by simp only[E.eval,hix]) hr hfit)⟩
    split at hl
    ·split at hl
     ·cases hl
     ·rename_i hro
      cases hl
      refine .inr ⟨HID,_,rfl,fun Q=>?_⟩
      obtain⟨st,d,h',hse,hix,hbo,_⟩:=hb
      obtain⟨ds,hev,hspec,hfit⟩:=hbo (by intro p hp;cases hp)
      rw[hbe] at hse
      cases hse
      rw[hev] at hev'
      cases hev'
      rw[hrun]
      refine⟨fun e=>(by cases e),callsIn_wide.2 ?_⟩
      refine(hspec w ρ.S ρ.foot bs vals rfl hst (h.holdOk hob) (foot_lt h hob) h.cells (by simpa using hdl) (fun i v x hv hx'=>hrd i v x (by simpa using hv) hx')).mono ?_
      rintro e w' ⟨v,S',foot',bs',⟨rfl,hr⟩,rfl,hst',hk,hS,hos,ht,hout,hsz,hbl,hf',hS2,hS3⟩
      have hrep:=h.setStore (x':=.tget 1 (.sym ix)) hob (by simpa using hro) (by simp only[E.eval,hix];rfl) hst' hk hS hos ht hout hsz hbl hf' hS2 hS3
      exact⟨_,hrep.put (by rw[SState.tmps_setObj];exact hd) (resSV_rd (by simp only[E.eval,hix];rfl) hr hfit)⟩
    ·cases hl
     refine .inl ⟨rfl,fun Q=>?_⟩
     obtain⟨d,hix,hbo⟩:=hb
     obtain⟨st,ds,hse,hev,hspec,hfit⟩:=hbo (by intro p hp;cases hp)
     rw[hbe] at hse
     cases hse
     rw[hev] at hev'
     cases hev'
     rw[hrun]
     refine⟨fun e=>(by cases e),callsIn_wide.2 ?_⟩
     refine(hspec w ρ.S ρ.foot bs vals rfl hst (h.holdOk hob) (foot_lt h hob) h.cells (by simpa using hdl) (fun i v x hv hx'=>hrd i v x (by simpa using hv) hx')).mono ?_
     rintro e w' ⟨v,S',⟨rfl,hr⟩,hbelow,hs1,hsn,hs2,hs3⟩
     exact⟨_,(h.behind hbelow hs1 hsn hs2 hs3).put hd (resSV_rd (by simp only[E.eval,hix]) hr hfit)⟩
   ·cases hl
 ·cases hl

theorem lcall_sound {o:Oper} {f:FuncId} {c:Operand} {args:Array Operand} {ts:Array TypeId} {svs:List SV} {ix:Nat} {r:LRes} (ho:o.op=.call { callee:=.value c,args:=args,argTypes:=ts }) (hc:a.eval c=.func (.func f) #[] #[])
  (hl:lcall P f svs σ.obj ix=some r) (hlen:args.size=svs.length) (hx:∀(i:Nat) (x:Operand) (s:SV),args[i]? = some x→svs[i]? = some s→SRd w ρ env (a.eval x) s) (h:Rep w0 X w a σ env ρ) (hd:∀d,o.dst=some d→d<σ.tmps.length)
  (hb:BindOk P env ix r.bind):(r.upd=none∧OpOk P o a w w0 X (σ.put o.dst r.val) env)∨∃ob z,r.upd=some (ob,z)∧OpOk P o a w w0 X ((σ.setObj ob (some z)).put o.dst r.val) env:=by
 refine lcall_soundG (vals:=args.map a.eval) (fun fn hf h1 h2=>?_) hl (by simpa using hlen) (fun i v s hv hs=>?_) h hd hb
 ·unfold execOp
  simp only[ho,resolve,hc,Deferred.ofValue,invoke,Sem.run_bind,Sem.run_pure,Result.andThen_ok,callFunc,run_program,hf,h1,h2,Bool.false_eq_true,if_false]
  simp
 ·simp only[Array.getElem?_map,Option.map_eq_some_iff] at hv
  obtain⟨x,hx',rfl⟩:=hv
  exact hx i x s hx' hs

def methodF (P:Program)(t:TypeId)(name:String):Option FuncId:=
 match P.info? t,P.underlying t with
 | some i,some (.pointer _)=>(match i.methods.find? (·.name==name) with
  | some m=>if m.path.isEmpty=true then(match m.func with
   | some (f,true)=>some f
   | _=>none) else none
  | none=>none)
 | _,_=>none

def linv (P:Program)(o:Oper)(rv:SV)(name:String)(args:List SV)(obj:Nat→Option SObj)(ix:Nat):Option LRes:=
 match obj HID,o.dst,rv.toE with
 | some (.store cf _),some d,some r'=>(cf.invs.lookup d).bind fun t=>(methodF P t name).bind fun f=>lcall P f (.e (.m4 (.unifc t) r' .nil .nil .nil) false :: args) obj ix
 | _,_,_=>none

theorem run_method {t:TypeId}{f:FuncId}{v:Value}{name:String}(h:methodF P t name=some f)(n:Nat):(method (n+1) t v name).run P w=.ok (f,v) w:=by
 unfold methodF at h
 split at h
 ·rename_i i e hi hu
  split at h
  ·rename_i m hm
   split at h
   ·rename_i hp
    split at h
    ·rename_i hf
     cases h
     have hp':m.path=#[]:=by simpa using hp
     simp[method,typeInfo,hi,hm,hp',follow,hf,receiverAt,run_underlying hu,Place.get]
    ·cases h
   ·cases h
  ·cases h
 ·cases h

theorem lcall_evals {f:FuncId}{svs:List SV}{obj:Nat→Option SObj}{ix:Nat}{r:LRes}(hl:lcall P f svs obj ix=some r)(hb:BindOk P env ix r.bind):∃xs ds,toEAll svs=some xs∧evalAll env xs=some ds:=by
 have nil:actHolds env []:=by intro p hp;cases hp
 unfold lcall at hl
 split at hl
 ·split at hl
  ·cases hl
  ·split at hl
   ·rename_i rs xs cf hE hrs hxs hob
    refine⟨xs,?_⟩
    split at hl
    ·cases hl
     obtain⟨d,_,hbo⟩:=hb
     obtain⟨st,ds,_,hev,_⟩:=hbo nil
     exact⟨ds,hxs,(evalAll_noid hev).1⟩
    ·split at hl
     ·split at hl
      ·cases hl
      ·cases hl
       obtain⟨st,d,h',_,_,hbo,_⟩:=hb
       obtain⟨ds,hev,_⟩:=hbo nil
       exact⟨ds,hxs,hev⟩
     ·cases hl
      obtain⟨d,_,hbo⟩:=hb
      obtain⟨st,ds,_,hev,_⟩:=hbo nil
      exact⟨ds,hxs,hev⟩
   ·cases hl
 ·cases hl

theorem linv_sound {o:Oper} {rc:Operand} {name:String} {args:Array Operand} {ts:Array TypeId} {opv:Operand→SV} {ix:Nat} {r:LRes} (ho:o.op=.call { callee:=.invoke rc name,args:=args,argTypes:=ts }) (hv:∀x,SRd w ρ env (a.eval x) (opv x))
  (hl:linv P o (opv rc) name (args.toList.map opv) σ.obj ix=some r) (h:Rep w0 X w a σ env ρ) (hd:∀d,o.dst=some d→d<σ.tmps.length) (hb:BindOk P env ix r.bind) :
  (r.upd=none∧OpOk P o a w w0 X (σ.put o.dst r.val) env)∨∃ob z,r.upd=some (ob,z)∧OpOk P o a w w0 X ((σ.setObj ob (some z)).put o.dst r.val) env:=by
 unfold linv at hl
 split at hl
 ·rename_i cf hh d r' hob hdst hr'
  obtain⟨t,ht,hl⟩:=Option.bind_eq_some_iff.1 hl
  obtain⟨f,hf,hl⟩:=Option.bind_eq_some_iff.1 hl
  obtain⟨dr,hdr,hrr⟩:=SV.toE_rd hr' (hv rc)
  have hun:∃d0,D.unifc t dr=some d0:=by
   obtain⟨xs,ds,hxs,hev⟩:=lcall_evals hl hb
   obtain⟨ys,rfl⟩:∃ys,xs=.m4 (.unifc t) r' .nil .nil .nil :: ys:=by
    simp only[toEAll,SV.toE] at hxs
    split at hxs
    ·rename_i h1 h2
     cases h1
     cases hxs
     exact⟨_,rfl⟩
    ·cases hxs
   simp only[evalAll,E.eval,hdr,Option.bind_some,D.m4] at hev
   obtain⟨d0,h1,_⟩:=Option.bind_eq_some_iff.1 hev
   exact⟨d0,h1⟩
  obtain⟨d0,hd0⟩:=hun
  have hifc:dr=.ifc t d0:=by
   unfold D.unifc at hd0
   split at hd0
   ·split at hd0
    ·rename_i e
     cases hd0
     rw[e]
    ·cases hd0
   ·cases hd0
  subst hifc
  obtain⟨v,hve,hvr⟩:∃v,a.eval rc=.iface t v∧RdD w ρ.S v d0:=by
   generalize a.eval rc=u at hrr
   cases hrr
   exact⟨_,rfl,by assumption⟩
  refine lcall_soundG (vals:=#[v]++args.map a.eval) (fun fn hfn h1 h2=>?_) hl (by simp;omega) (fun i u s hu hs=>?_) h hd hb
  ·obtain⟨n,hn⟩:∃n,P.types.size+Made.depth=n+1:=⟨P.types.size+Made.depth-1,by simp[Made.depth]⟩
   have hm:=run_method (w:=w) (v:=v) hf n
   have hext:(#[Value.iface t v]++args.map a.eval).extract 1 (#[Value.iface t v]++args.map a.eval).size=args.map a.eval:=by simp
   have h0:(#[Value.iface t v]++args.map a.eval)[0]? = some (.iface t v):=by rw[Array.getElem?_append_left (by simp)];rfl
   unfold execOp
   simp only[ho,resolve,invoke,Sem.run_bind,Sem.run_pure,Result.andThen_ok,hve,h0,callMethod,hext,run_program,hn,hm,callFunc,hfn,h1,h2,Bool.false_eq_true,if_false]
  ·cases i with
   | zero=>
    rw[Array.getElem?_append_left (by simp)] at hu
    simp at hu hs
    subst hu hs
    exact .e (by simp only[E.eval,hdr,Option.bind_some,D.m4,hd0]) hvr (by simp)
   | succ i=>
    rw[Array.getElem?_append_right (by simp)] at hu
    simp only[List.size_toArray,List.length_cons,List.length_nil,Nat.zero_add,Nat.add_sub_cancel,Array.getElem?_map,Option.map_eq_some_iff,List.getElem?_cons_succ,List.getElem?_map] at hu hs
    obtain⟨x,hx,rfl⟩:=hu
    obtain⟨y,hy,rfl⟩:=hs
    rw[Array.getElem?_toList,hx] at hy
    cases hy
    exact hv x
 ·cases hl

theorem get3 {α:Type}{us vs ws:List α}{β:Type}{as bs cs:List β}{R:α→β→Prop}(h1:us.length=as.length)(h2:vs.length=bs.length)(g1:∀(i:Nat) u a,us[i]? = some u→as[i]? = some a→R u a)(g2:∀(i:Nat) u a,vs[i]? = some u→bs[i]? = some a→R u a)(g3:∀(i:Nat) u a,ws[i]? = some u→cs[i]? = some a→R u a) :
  ∀(i:Nat) u a,(us++vs++ws)[i]? = some u→(as++bs++cs)[i]? = some a→R u a:=by
 intro i u a hu ha
 rw[List.append_assoc] at hu ha
 rcases Nat.lt_or_ge i us.length with h | h
 ·rw[List.getElem?_append_left h] at hu
  rw[List.getElem?_append_left (by omega)] at ha
  exact g1 i u a hu ha
 ·rw[List.getElem?_append_right h] at hu
  rw[List.getElem?_append_right (by omega)] at ha
  rw[←h1] at ha
  rcases Nat.lt_or_ge (i-us.length) vs.length with h' | h'
  ·rw[List.getElem?_append_left h'] at hu
   rw[List.getElem?_append_left (by omega)] at ha
   exact g2 _ u a hu ha
  ·rw[List.getElem?_append_right h'] at hu
   rw[List.getElem?_append_right (by omega)] at ha
   rw[←h2] at ha
   exact g3 _ u a hu ha

theorem lcallv_sound {o:Oper} {c:Operand} {xe:E} {sb:Bool} {args:Array Operand} {ts:Array TypeId} {svs:List SV} {ix:Nat} {r:LRes} (ho:o.op=.call { callee:=.value c,args:=args,argTypes:=ts }) (hc:SRd w ρ env (a.eval c) (.e xe sb))
  (hl:lcallv P xe svs o σ.obj ix=some r) (hlen:args.size=svs.length) (hx:∀(i:Nat) (x:Operand) (s:SV),args[i]? = some x→svs[i]? = some s→SRd w ρ env (a.eval x) s) (h:Rep w0 X w a σ env ρ) (hd:∀d,o.dst=some d→d<σ.tmps.length)
  (hb:BindOk P env ix r.bind):(r.upd=none∧OpOk P o a w w0 X (σ.put o.dst r.val) env)∨∃ob z,r.upd=some (ob,z)∧OpOk P o a w w0 X ((σ.setObj ob (some z)).put o.dst r.val) env:=by
 unfold lcallv at hl
 split at hl
 ·rename_i rs xs cf hE hrs hxs hob
  obtain⟨bs,hbe,hst,_⟩:=h.objs _ _ hob
  obtain⟨dc,hdc,hrc,_⟩:=hc.e_inv
  obtain⟨ds',hev',hdl,hrd⟩:=toEAll_rd (vs:=(args.map a.eval).toList) hxs (by simpa using hlen) (fun i v s hv hs=>by
   simp only[Array.toList_map,List.getElem?_map,Option.map_eq_some_iff] at hv
   obtain⟨x,hx',rfl⟩:=hv
   exact hx i x s (by simpa using hx') hs)
  have enter:∀{f:FuncId} {us cs:List D},dc=.fn f us cs→callable P f=true→∃uv cv:Array Value,(execOp a.eval o).run P w=.ok (.enter f (uv++args.map a.eval++cv)) w∧uv.size=us.length∧cv.size=cs.length ∧
    (∀(i:Nat) (v:Value) (d:D),uv[i]? = some v→us[i]? = some d→RdD w ρ.S v d)∧∀(i:Nat) (v:Value) (d:D),cv[i]? = some v→cs[i]? = some d→RdD w ρ.S v d:=by
   intro f us cs he hcl
   subst he
   generalize hv:a.eval c=v at hrc
   cases hrc with
   | @fn _ uv cv _ _ h1 h2 h3 h4=>
    refine⟨uv,cv,?_,h1,h2,h3,h4⟩
    unfold callable at hcl
    split at hcl
    ·rename_i fn hf
     simp only[Bool.and_eq_true,Bool.not_eq_true',Option.isSome_iff_ne_none] at hcl
     have hbn:fn.body.isNone=false:=by
      cases hb:fn.body with
      | none=>exact absurd hb hcl.2
      | some _=>rfl
     unfold execOp
     simp only[ho,resolve,hv,Deferred.ofValue,invoke,Sem.run_bind,Sem.run_pure,Result.andThen_ok,callFunc,run_program,hf,hcl.1,hbn,Bool.false_eq_true,if_false]
    ·cases hcl
  split at hl
  ·split at hl
   ·cases hl
   ·rename_i hro
    cases hl
    refine .inr ⟨HID,_,rfl,fun Q=>?_⟩
    obtain⟨st,d,h',hse,hix,hbo,_⟩:=hb
    obtain⟨xd,ds,hxe,hev,hcall,hfit⟩:=hbo (by intro p hp;cases hp)
    rw[hdc] at hxe
    cases hxe
    rw[hbe] at hse
    cases hse
    rw[hev] at hev'
    cases hev'
    unfold CallV at hcall
    split at hcall
    ·rename_i f us cs
     obtain⟨hcl,hspec⟩:=hcall
     obtain⟨uv,cv,hrun,hul,hcll,hur,hcr⟩:=enter rfl hcl
     rw[hrun]
     refine⟨fun e=>(by cases e),callsIn_wide.2 ?_⟩
     refine(hspec w ρ.S ρ.foot bs _ rfl hst (h.holdOk hob) (foot_lt h hob) h.cells (by simp at hdl;simp[hul,hcll,hdl]) (fun i v x hv hx'=>get3 (us:=uv.toList) (vs:=(args.map a.eval).toList) (ws:=cv.toList) (R:=fun v x=>RdD w ρ.S v x) (by simpa using hul) hdl (fun i u x hu hx=>hur i u x (by simpa using hu) hx) hrd (fun i u x hu hx=>hcr i u x (by simpa using hu) hx) i v x (by rw[←Array.toList_append,←Array.toList_append,Array.getElem?_toList];exact hv) hx')).mono ?_
     rintro e w' ⟨v,S',foot',bs',⟨rfl,hr⟩,rfl,hst',hk,hS,hos,ht,hout,hsz,hbl,hf',hS2,hS3⟩
     have hrep:=h.setStore (x':=.tget 1 (.sym ix)) hob (by simpa using hro) (by simp only[E.eval,hix];rfl) hst' hk hS hos ht hout hsz hbl hf' hS2 hS3
     exact⟨_,hrep.put (by rw[SState.tmps_setObj];exact hd) (resSV_rd (by simp only[E.eval,hix];rfl) hr hfit)⟩
    ·rename_i l rec sl caps
     obtain⟨rfl,hspec⟩:=hcall
     obtain⟨l',f,tmps,assign,body,hyv,hrun,hround⟩:=hspec w ρ.S ρ.foot bs (args.map a.eval) (a.eval c) rfl hst (h.holdOk hob) (foot_lt h hob) h.cells hrc (by simpa using hdl) (fun i v x hv hx'=>hrd i v x (by simpa using hv) hx')
     have hrun':(execOp a.eval o).run P w=.ok (.round l' f tmps assign body) w:=by
      unfold execOp
      simp only[ho,resolve,hyv,Deferred.ofValue,invoke,Sem.run_bind,Sem.run_pure,Result.andThen_ok]
      simpa using hrun
     rw[hrun']
     refine⟨fun e=>(by cases e),hround.mono ?_⟩
     rintro e w' ⟨S',foot',bs',rfl,rfl,hst',hk,hS,hos,ht,hout,hsz,hbl,hf',hS2,hS3⟩
     have hrep:=h.setStore (x':=.tget 1 (.sym ix)) hob (by simpa using hro) (by simp only[E.eval,hix];rfl) hst' hk hS hos ht hout hsz hbl hf' hS2 hS3
     exact⟨_,hrep.put (by rw[SState.tmps_setObj];exact hd) (resSV_rd (by simp only[E.eval,hix];rfl) (.v rfl) hfit)⟩
    ·rename_i l rec sl caps
     obtain⟨b,rfl,hspec⟩:=hcall
     obtain⟨l',f,tmps,assign,body,hyv,hrun,hround⟩:=hspec w ρ.S ρ.foot bs (args.map a.eval) (a.eval c) rfl hst (h.holdOk hob) (foot_lt h hob) h.cells hrc (by simpa using hdl) (fun i v x hv hx'=>hrd i v x (by simpa using hv) hx')
     have hrun':(execOp a.eval o).run P w=.ok (.round l' f tmps assign body) w:=by
      unfold execOp
      simp only[ho,resolve,hyv,Deferred.ofValue,invoke,Sem.run_bind,Sem.run_pure,Result.andThen_ok]
      simpa using hrun
     rw[hrun']
     refine⟨fun e=>(by cases e),hround.mono ?_⟩
     rintro e w' ⟨S',foot',bs',rfl,rfl,hst',hk,hS,hos,ht,hout,hsz,hbl,hf',hS2,hS3⟩
     have hrep:=h.setStore (x':=.tget 1 (.sym ix)) hob (by simpa using hro) (by simp only[E.eval,hix];rfl) hst' hk hS hos ht hout hsz hbl hf' hS2 hS3
     exact⟨_,hrep.put (by rw[SState.tmps_setObj];exact hd) (resSV_rd (by simp only[E.eval,hix];rfl) (.v rfl) hfit)⟩
    ·exact hcall.elim
  ·cases hl
   refine .inl ⟨rfl,fun Q=>?_⟩
   obtain⟨d,hix,hbo⟩:=hb
   obtain⟨f,us,cs,st,ds,hxe,hcl,hse,hev,hspec,hfit⟩:=hbo (by intro p hp;cases hp)
   rw[hdc] at hxe
   cases hxe
   obtain⟨uv,cv,hrun,hul,hcll,hur,hcr⟩:=enter rfl hcl
   rw[hbe] at hse
   cases hse
   rw[hev] at hev'
   cases hev'
   rw[hrun]
   refine⟨fun e=>(by cases e),callsIn_wide.2 ?_⟩
   refine(hspec w ρ.S ρ.foot bs _ rfl hst (h.holdOk hob) (foot_lt h hob) h.cells (by simp at hdl;simp[hul,hcll,hdl]) (fun i v x hv hx'=>get3 (us:=uv.toList) (vs:=(args.map a.eval).toList) (ws:=cv.toList) (R:=fun v x=>RdD w ρ.S v x) (by simpa using hul) hdl (fun i u x hu hx=>hur i u x (by simpa using hu) hx) hrd (fun i u x hu hx=>hcr i u x (by simpa using hu) hx) i v x (by rw[←Array.toList_append,←Array.toList_append,Array.getElem?_toList];exact hv) hx')).mono ?_
   rintro e w' ⟨v,S',⟨rfl,hr⟩,hbelow,hs1,hsn,hs2,hs3⟩
   exact⟨_,(h.behind hbelow hs1 hsn hs2 hs3).put hd (resSV_rd (by simp only[E.eval,hix]) hr hfit)⟩
 ·cases hl

theorem lmkfn_sound {o:Oper} {fn:Fn} {first caps:Array Operand} {fs cs:List SV} {ix:Nat} {r:LRes} (ho:o.op=.makeFunc fn first caps) (hl:lmkfn fn fs cs ix=some r) (hfl:first.size=fs.length) (hcl:caps.size=cs.length)
  (hf:∀(i:Nat) (x:Operand) (s:SV),first[i]? = some x→fs[i]? = some s→SRd w ρ env (a.eval x) s) (hc:∀(i:Nat) (x:Operand) (s:SV),caps[i]? = some x→cs[i]? = some s→SRd w ρ env (a.eval x) s)
  (h:Rep w0 X w a σ env ρ) (hd:∀d,o.dst=some d→d<σ.tmps.length) (hb:BindOk P env ix r.bind):r.upd=none∧OpOk P o a w w0 X (σ.put o.dst r.val) env:=by
 unfold lmkfn at hl
 split at hl
 ·rename_i f x y hx hy
  cases hl
  have go:∀{os:Array Operand} {ss:List SV} {x:E},SV.toTs ss=some x→os.size=ss.length→(∀(i:Nat) (x:Operand) (s:SV),os[i]? = some x→ss[i]? = some s→SRd w ρ env (a.eval x) s) →
    ∃ds,x.eval env=some (.tup ds)∧(os.map a.eval).size=ds.length∧∀(i:Nat) (v:Value) (d:D),(os.map a.eval)[i]? = some v→ds[i]? = some d→RdD w ρ.S v d:=by
   intro os ss x hx hl hh
   obtain⟨ds,h1,h2,h3⟩:=SV.toTs_rd (w:=w) (ρ:=ρ) (env:=env) (vs:=(os.map a.eval).toList) hx (by simpa using hl) (fun i v c hv hc=>by
    simp only[Array.toList_map,List.getElem?_map,Option.map_eq_some_iff] at hv
    obtain⟨z,hz,rfl⟩:=hv
    exact hh i z c (by simpa using hz) hc)
   exact⟨ds,h1,by simpa using h2,fun i v d hv hd=>h3 i v d (by simpa using hv) hd⟩
  obtain⟨us,h1,h2,h3⟩:=go hx hfl hf
  obtain⟨es,h4,h5,h6⟩:=go hy hcl hc
  obtain⟨d,he,hix⟩:=hb
  simp only[E.eval,h1,h4,Option.bind_some,D.mkfn] at he
  cases he
  refine⟨rfl,opOk_same h hd (v:=.func (.func f) (first.map a.eval) (caps.map a.eval)) ?_ (.e (d:=.fn f us es) (by simp[E.eval,hix]) (.fn h2 h5 h3 h6) fun _=>rfl)⟩
  unfold execOp
  simp[ho,Instr.makeFunc]
 ·cases hl

end
end
end Go.Am

/-
 Parts of a literal laid one behind the other;literals with parts that are no data.
-/
namespace Go.Am
noncomputable section

def apartP (p q:Nat×Nat):Bool:=decide (p.1+p.2≤q.1)||decide (q.1+q.2≤p.1)

def Covers (place:Nat→Option (Nat×Nat))(p:Nat×Value)(k:Nat):Prop:=∃off size,place p.1=some (off,size)∧off≤k∧k<off+size

theorem fill_at {place : Nat → Option (Nat × Nat)} : ∀ (parts : List (Nat × Value)) (cells : Array Value), (∀ p, p ∈ parts → ∃ off, place p.1 = some (off, p.2.cells.size) ∧ off + p.2.cells.size ≤ cells.size) →
  ∃ r, Instr.fill place cells parts = some r ∧ r.size = cells.size ∧ ∀ k, k < cells.size →
   ((∀ p, p ∈ parts → ¬ Covers place p k) → r[k]? = cells[k]?) ∧
   (∀ p off, p ∈ parts → place p.1 = some (off, p.2.cells.size) → off ≤ k → k < off + p.2.cells.size → (∀ q, q ∈ parts → q ≠ p → ¬ Covers place q k) → r[k]? = p.2.cells[k - off]?)
 | [], cells, _ => ⟨cells, rfl, rfl, fun k _ => ⟨fun _ => rfl, fun p off hp => by cases hp⟩⟩
 | (i, v) :: parts, cells, h => by
  obtain ⟨off, hpl, hle⟩ := h (i, v) (by simp)
  obtain ⟨g1, g2⟩ := Great.foldl_set off v.cells.toList 0 cells
  obtain ⟨r, hr, hsz, hk⟩ := fill_at (place := place) parts ((v.cells.toList.zipIdx 0).foldl (fun cs (x : Value × Nat) => cs.setIfInBounds (off + x.2) x.1) cells) (fun p hp => by
   obtain ⟨o, h1, h2⟩ := h p (by simp [hp])
   exact ⟨o, h1, by rw [g1]; exact h2⟩)
  refine ⟨r, ?_, by rw [hsz, g1], fun k hkc => ?_⟩
  ·unfold Instr.fill
   simp only [hpl]
   simp only at hle
   rw [if_neg (by simp; omega)]
   rw [← hr]
   congr 1
   rw [← Array.foldl_toList, Array.toList_zipIdx]
  ·obtain ⟨hk1, hk2⟩ := hk k (by rw [g1]; exact hkc)
   have hg := g2 k
   simp only [Nat.add_zero, Array.length_toList] at hg
   refine ⟨fun hnc => ?_, fun p o hp hpo h1 h2 hne => ?_⟩
   ·rw [hk1 fun p hp => hnc p (by simp [hp]), hg, if_neg fun hc => hnc (i, v) (by simp) ⟨off, _, hpl, hc.1, hc.2.1⟩]
   ·rcases List.mem_cons.1 hp with rfl | hp'
    ·by_cases hin : (i, v) ∈ parts
     ·exact hk2 (i, v) o hin hpo h1 h2 fun q hq hqp => hne q (by simp [hq]) hqp
     ·rw [hk1 fun q hq => hne q (by simp [hq]) fun e => hin (e ▸ hq), hg]
      simp only at hpo hpl h2
      rw [hpl] at hpo
      cases hpo
      rw [if_pos ⟨h1, h2, hkc⟩]
      simp
    ·exact hk2 p o hp' hpo h1 h2 fun q hq hqp => hne q (by simp [hq]) hqp

theorem nodup_fst {α:Type}:∀{l:List (Nat×α)} {p q:Nat×α},(l.map (·.1)).Nodup→p∈l→q∈l→p.1=q.1→p=q
 | [],p,q,_,h,_,_=>by cases h
 | a :: l,p,q,hn,hp,hq,he=>by
  simp only[List.map_cons,List.nodup_cons] at hn
  rcases List.mem_cons.1 hp with rfl | hp' <;> rcases List.mem_cons.1 hq with rfl | hq'
  ·rfl
  ·exact(hn.1 (List.mem_map.2 ⟨q,hq',he.symm⟩)).elim
  ·exact(hn.1 (List.mem_map.2 ⟨p,hp',he⟩)).elim
  ·exact nodup_fst hn.2 hp' hq' he

/-! ## literals of parts of one cell each -/

def oneSV (obj:Nat→Option SObj):SV→Option SV
 | .e x true=>some (.e x true)
 | .slc o=>(match obj o with | some (.row _ _)=>some (.slc o) | _=>none)
 | .addr o f=>some (.addr o f)
 | .func (.func f) cs=>some (.func (.func f) cs)
 | _=>none

def partS (z:Value)(parts:List (Nat×Option SV))(i:Nat):Option SV:=
 match parts.find? (fun p=>p.1==i) with
 | some p=>p.2
 | none=>(z.cells[i]?).bind fun v=>(D.ofVal v).bind fun d=>if d.one=true then some (.e (.const d) true) else none

def partsS (z:Value)(parts:List (Nat×Option SV)):Nat→Option (List SV)
 | 0=>some []
 | n+1=>(partsS z parts n).bind fun l=>(partS z parts n).map fun s=>l++[s]

def flatT (P:Program)(t:TypeId)(n:Nat):Bool:=
 match P.underlying t with
 | some (.struct fields)=>decide (fields.toList.mapM (fun f=>(P.info? f.type).map fun i=>(f.offset,i.size))=some ((List.range n).map fun i=>(i,1)))
 | some (.array _ e)=>(match P.info? e with | some ie=>decide (ie.size=1) | none=>false)
 | _=>false

def lbuildS (P:Program)(t:TypeId)(parts:List (Nat×Operand))(opv:Operand→SV)(obj:Nat→Option SObj):Option LRes:=
 match P.info? t with
 | some it=>(match it.zero with
  | some z=>if flatT P t z.cells.size=true∧(parts.map (·.1)).Nodup∧parts.all (fun p=>decide (p.1<z.cells.size))=true then(partsS z (parts.map fun p=>(p.1,oneSV obj (opv p.2))) z.cells.size).map fun l=>{ val:=.agg l } else none
  | none=>none)
 | none=>none

section
variable {P:Program} {w w0:World} {X:Ent} {a:Act} {σ:SState} {env:List D} {ρ:Rho}

theorem partsS_get {z:Value}{parts:List (Nat×Option SV)}:∀{n:Nat} {l:List SV},partsS z parts n=some l→l.length=n∧∀i,i<n→∃s,l[i]? = some s∧partS z parts i=some s
 | 0,l,h=>by
  simp only[partsS,Option.some.injEq] at h
  subst h
  exact⟨rfl,fun i hi=>by omega⟩
 | n+1,l,h=>by
  simp only[partsS,Option.bind_eq_some_iff,Option.map_eq_some_iff] at h
  obtain⟨l',h1,s,h2,rfl⟩:=h
  obtain⟨g1,g2⟩:=partsS_get h1
  refine⟨by simp[g1],fun i hi=>?_⟩
  by_cases hin:i<n
  ·obtain⟨s',k1,k2⟩:=g2 i hin
   exact⟨s',by rw[List.getElem?_append_left (by omega)];exact k1,k2⟩
  ·obtain rfl:i=n:=by omega
   exact⟨s,by rw[List.getElem?_append_right (by omega),g1];simp,h2⟩

theorem oneSV_rd {sv s:SV}{v:Value}(h:oneSV σ.obj sv=some s)(hr:SRd w ρ env v sv)(hobj:∀o y,σ.obj o=some y→ObjOk w ρ env o y):SRd w ρ env v s∧v.oneCell'=true:=by
 unfold oneSV at h
 split at h
 ·cases h
  obtain⟨d,_,h2,h3⟩:=hr.e_inv
  exact⟨hr,h2.one (h3 rfl)⟩
 ·rename_i o
  split at h
  ·rename_i x sz ho
   cases h
   obtain⟨vs,ty,es,_,_,_,_,_,hval,_⟩:=hobj o _ ho
   refine⟨hr,?_⟩
   rw[hr.slc_inv,hval]
   rfl
  ·cases h
 ·cases h
  refine⟨hr,?_⟩
  rw[hr.addr_inv]
  rfl
 ·cases h
  obtain⟨vs,hv,_⟩:=hr.func_inv
  refine⟨hr,?_⟩
  rw[hv]
  rfl
 ·cases h

theorem lbuildS_sound {o:Oper} {t:TypeId} {parts:Array (Nat×Operand)} {opv:Operand→SV} {r:LRes} (ho:o.op=.build t parts) (hv:∀x,SRd w ρ env (a.eval x) (opv x)) (hl:lbuildS P t parts.toList opv σ.obj=some r) (h:Rep w0 X w a σ env ρ)
  (hd:∀d,o.dst=some d→d<σ.tmps.length):r.upd=none∧OpOk P o a w w0 X (σ.put o.dst r.val) env:=by
 unfold lbuildS at hl
 split at hl
 ·rename_i it hit
  split at hl
  ·rename_i z hz
   split at hl
   ·rename_i hc
    obtain⟨hflat,hnd,hin⟩:=hc
    obtain⟨l,hl',rfl⟩:=Option.map_eq_some_iff.1 hl
    refine⟨rfl,?_⟩
    obtain⟨hll,hget⟩:=partsS_get hl'
    have hlt:∀p,p∈parts.toList→p.1<z.cells.size:=fun p hp=>by simpa using List.all_eq_true.1 hin p hp
    have hpart:∀p,p∈parts.toList→∃s,partS z (parts.toList.map fun p=>(p.1,oneSV σ.obj (opv p.2))) p.1=some s∧SRd w ρ env (a.eval p.2) s∧(a.eval p.2).oneCell'=true:=by
     intro p hp
     obtain⟨s,_,hs⟩:=hget p.1 (hlt p hp)
     refine⟨s,hs,?_⟩
     unfold partS at hs
     split at hs
     ·rename_i q hq
      have hmem:=List.mem_of_find?_eq_some hq
      have hqi:=List.find?_some hq
      simp only[beq_iff_eq] at hqi
      obtain⟨p0,hp0,rfl⟩:=List.mem_map.1 hmem
      have:=nodup_fst hnd hp0 hp hqi
      subst this
      exact oneSV_rd hs (hv _) h.objs
     ·rename_i hnone
      have:=List.find?_eq_none.1 hnone (p.1,oneSV σ.obj (opv p.2)) (List.mem_map.2 ⟨p,hp,rfl⟩)
      simp at this
    have hcells1:∀p,p∈parts.toList→(a.eval p.2).cells=#[a.eval p.2]:=fun p hp=>by
     have:=(hpart p hp).choose_spec.2.2
     cases hv:a.eval p.2 <;> first | rfl | (rw[hv] at this;simp[Value.oneCell'] at this)
    obtain⟨place,hplace,hbuilt⟩:∃place:Nat→Option (Nat×Nat),(∀i,i<z.cells.size→place i=some (i,1))∧∀vs,P.built t vs=Instr.fill place z.cells vs:=by
     unfold flatT at hflat
     split at hflat
     ·rename_i fields hu
      simp only[decide_eq_true_eq] at hflat
      refine⟨fun i=>((List.range z.cells.size).map fun i=>(i,1)).toArray[i]?,fun i hi=>by simp[hi],fun vs=>?_⟩
      unfold Program.built
      simp only[hit,hu,hz,hflat]
     ·rename_i n e hu
      split at hflat
      ·rename_i ie hie
       simp only[decide_eq_true_eq] at hflat
       refine⟨fun i=>some (i*ie.size,ie.size),fun i hi=>by simp[hflat],fun vs=>?_⟩
       unfold Program.built
       simp only[hit,hu,hz,hie]
      ·cases hflat
     ·cases hflat
    obtain⟨r,hr,hrs,hrk⟩:=fill_at (place:=place) (parts.toList.map fun p=>(p.1,a.eval p.2)) z.cells (fun p hp=>by
     obtain⟨q,hq,rfl⟩:=List.mem_map.1 hp
     refine⟨q.1,?_,?_⟩
     ·rw[hplace _ (hlt q hq),hcells1 q hq];rfl
     ·have:=hlt q hq
      rw[hcells1 q hq]
      simp
      omega)
    have hcov:∀p,p∈parts.toList→∀k,Covers place (p.1,a.eval p.2) k→k=p.1:=by
     rintro p hp k ⟨off,size,h9,h10,h11⟩
     simp only[hplace _ (hlt p hp),Option.some.injEq,Prod.mk.injEq] at h9
     obtain⟨rfl,rfl⟩:=h9
     omega
    have hcell:∀k,k<z.cells.size→∃v s,r[k]? = some v∧l[k]? = some s∧SRd w ρ env v s∧v.oneCell'=true:=by
     intro k hk
     obtain⟨s,hs1,hs2⟩:=hget k hk
     by_cases hp:∃p,p∈parts.toList∧p.1=k
     ·obtain⟨p,hp,rfl⟩:=hp
      obtain⟨s',h1,h2,h3⟩:=hpart p hp
      rw[hs2] at h1
      cases h1
      refine⟨a.eval p.2,s,?_,hs1,h2,h3⟩
      have:=(hrk p.1 hk).2 (p.1,a.eval p.2) p.1 (List.mem_map.2 ⟨p,hp,rfl⟩) (by rw[hplace _ hk,hcells1 p hp];rfl) (Nat.le_refl _) (by rw[hcells1 p hp];simp) fun q hq hne hcv=>by
       obtain⟨p',hp',rfl⟩:=List.mem_map.1 hq
       have:=hcov p' hp' _ hcv
       exact hne (by rw[nodup_fst hnd hp' hp this.symm])
      rw[this,hcells1 p hp]
      simp
     ·have hno:∀p,p∈parts.toList→p.1≠k:=fun p hpm e=>hp ⟨p,hpm,e⟩
      have:=(hrk k hk).1 fun q hq hcv=>by
       obtain⟨p',hp',rfl⟩:=List.mem_map.1 hq
       exact hno p' hp' (hcov p' hp' _ hcv).symm
      unfold partS at hs2
      split at hs2
      ·rename_i q hq
       have hmem:=List.mem_of_find?_eq_some hq
       have hqi:=List.find?_some hq
       simp only[beq_iff_eq] at hqi
       obtain⟨p0,hp0,rfl⟩:=List.mem_map.1 hmem
       exact absurd hqi (hno p0 hp0)
      ·obtain⟨v,hv1,hs2⟩:=Option.bind_eq_some_iff.1 hs2
       obtain⟨d,hd1,hs2⟩:=Option.bind_eq_some_iff.1 hs2
       split at hs2
       ·rename_i hone
        cases hs2
        have hrd:RdD w ρ.S v d:=D.ofVal_rd hd1
        exact⟨v,_,this.trans hv1,hs1,.e rfl hrd fun _=>hone,hrd.one hone⟩
       ·cases hs2
    have hb2:P.built t (parts.map fun(x:Nat×Operand)=>(x.1,a.eval x.2)).toList=some r:=by rw[hbuilt,Array.toList_map];exact hr
    have hrun:(execOp a.eval o).run P w=.ok (.value (.agg r)) w:=by
     unfold execOp
     simp only[ho,Sem.run_bind,run_build w t _ r hb2,Result.andThen_ok,Sem.run_pure]
    refine opOk_same h hd hrun (.agg (by rw[hrs,hll]) (fun k v hv'=>?_) fun k v c hv' hc=>?_)
    ·obtain⟨v',s,h1,_,_,h4⟩:=hcell k (by rw[←hrs];exact(Array.getElem?_eq_some_iff.1 hv').1)
     rw[hv'] at h1
     cases h1
     exact h4
    ·obtain⟨v',s,h1,h2,h3,_⟩:=hcell k (by rw[←hrs];exact(Array.getElem?_eq_some_iff.1 hv').1)
     rw[hv'] at h1
     rw[hc] at h2
     cases h1
     cases h2
     exact h3
   ·cases hl
  ·cases hl
 ·cases hl

end
end
end Go.Am

/-
 Equality that the kernel can decide: of constants,expressions,symbolic values.
-/
namespace Go.Am
noncomputable section


def E.same:E→E→Bool
 | .sym a,.sym b=>decide (a=b)
 | .const a,.const b=>D.same a b
 | .bin o k a b,.bin o' k' a' b'=>decide (o=o')&&decide (k=k')&&a.same a'&&b.same b'
 | .un o a,.un o' a'=>decide (o=o')&&a.same a'
 | .conv k a,.conv k' a'=>decide (k=k')&&a.same a'
 | .lenL a,.lenL a'=>a.same a'
 | .lenS a,.lenS a'=>a.same a'
 | .scal a,.scal a'=>a.same a'
 | .cell i a,.cell i' a'=>decide (i=i')&&a.same a'
 | .cells i n a,.cells i' n' a'=>decide (i=i')&&decide (n=n')&&a.same a'
 | .aggN n a,.aggN n' a'=>decide (n=n')&&a.same a'
 | .idx a b,.idx a' b'=>a.same a'&&b.same b'
 | .idxN n a b,.idxN n' a' b'=>decide (n=n')&&a.same a'&&b.same b'
 | .nil,.nil=>true
 | .cons a b,.cons a' b'=>a.same a'&&b.same b'
 | .one a,.one a'=>a.same a'
 | .app n m a b,.app n' m' a' b'=>decide (n=n')&&decide (m=m')&&a.same a'&&b.same b'
 | .lcons a b,.lcons a' b'=>a.same a'&&b.same b'
 | .mkptr a,.mkptr a'=>a.same a'
 | .mkfn f a b,.mkfn f' a' b'=>decide (f=f')&&a.same a'&&b.same b'
 | .sub n a b c,.sub n' a' b' c'=>decide (n=n')&&a.same a'&&b.same b'&&c.same c'
 | .set a b n c,.set a' b' n' c'=>a.same a'&&b.same b'&&decide (n=n')&&c.same c'
 | .ite a b c,.ite a' b' c'=>a.same a'&&b.same b'&&c.same c'
 | .guard a w b,.guard a' w' b'=>a.same a'&&decide (w=w')&&b.same b'
 | .tnil,.tnil=>true
 | .tcons a b,.tcons a' b'=>a.same a'&&b.same b'
 | .tget i a,.tget i' a'=>decide (i=i')&&a.same a'
 | .rep n a d,.rep n' a' d'=>decide (n=n')&&a.same a'&&D.same d d'
 | .deref a,.deref a'=>a.same a'
 | .ifc t a,.ifc t' a'=>decide (t=t')&&a.same a'
 | .mm m a b,.mm m' a' b'=>decide (m=m')&&a.same a'&&b.same b'
 | .padd k a,.padd k' a'=>decide (k=k')&&a.same a'
 | .nn a,.nn a'=>a.same a'
 | .eaddr n a b,.eaddr n' a' b'=>decide (n=n')&&a.same a'&&b.same b'
 | .ld g n a b,.ld g' n' a' b'=>decide (g=g')&&decide (n=n')&&a.same a'&&b.same b'
 | .sto n a b c,.sto n' a' b' c'=>decide (n=n')&&a.same a'&&b.same b'&&c.same c'
 | .newb e n a b,.newb e' n' a' b'=>decide (e=e')&&decide (n=n')&&a.same a'&&b.same b'
 | .fstid a,.fstid a'=>a.same a'
 | .newv e n a b,.newv e' n' a' b'=>decide (e=e')&&decide (n=n')&&a.same a'&&b.same b'
 | .fstsl a b,.fstsl a' b'=>a.same a'&&b.same b'
 | .apph e n m a b c,.apph e' n' m' a' b' c'=>decide (e=e')&&decide (n=n')&&decide (m=m')&&a.same a'&&b.same b'&&c.same c'
 | .apps a b c,.apps a' b' c'=>a.same a'&&b.same b'&&c.same c'
 | .frzv g a b,.frzv g' a' b'=>decide (g=g')&&a.same a'&&b.same b'
 | .frzh a b,.frzh a' b'=>a.same a'&&b.same b'
 | .m4 o a b c d,.m4 o' a' b' c' d'=>decide (o=o')&&a.same a'&&b.same b'&&c.same c'&&d.same d'
 | _,_=>false

theorem E.same_eq : ∀ {a b : E}, E.same a b = true → a = b := by
 intro a
 induction a <;> intro b h <;> cases b <;> simp only [E.same, Bool.and_eq_true, decide_eq_true_eq, Bool.false_eq_true] at h <;> first
  | rfl
  | (subst h; rfl)
  | (rw [D.same_eq h])
  | (rename_i ih _; rw [ih h])
  | (rename_i ih _ _; obtain ⟨rfl, h2⟩ := h; rw [ih h2])
  | (rename_i ih _ _ _; obtain ⟨⟨rfl, rfl⟩, h2⟩ := h; rw [ih h2])
  | (rename_i ih1 ih2 _ _; rw [ih1 h.1, ih2 h.2])
  | (rename_i ih1 ih2 _ _ _; obtain ⟨⟨rfl, h1⟩, h2⟩ := h; rw [ih1 h1, ih2 h2])
  | (rename_i ih1 ih2 _ _ _ _; obtain ⟨⟨⟨rfl, rfl⟩, h1⟩, h2⟩ := h; rw [ih1 h1, ih2 h2])
  | (rename_i ih1 ih2 ih3 _ _ _; rw [ih1 h.1.1, ih2 h.1.2, ih3 h.2])
  | (rename_i ih1 ih2 ih3 _ _ _ _; obtain ⟨⟨⟨rfl, h1⟩, h2⟩, h3⟩ := h; rw [ih1 h1, ih2 h2, ih3 h3])
  | (rename_i ih1 ih2 ih3 _ _ _ _; obtain ⟨⟨⟨h1, h2⟩, rfl⟩, h3⟩ := h; rw [ih1 h1, ih2 h2, ih3 h3])
  | (rename_i ih1 ih2 ih3 _ _ _ _ _ _; obtain ⟨⟨⟨⟨⟨rfl, rfl⟩, rfl⟩, h1⟩, h2⟩, h3⟩ := h; rw [ih1 h1, ih2 h2, ih3 h3])
  | (rename_i ih1 ih2 _ _ _; obtain ⟨⟨h1, rfl⟩, h2⟩ := h; rw [ih1 h1, ih2 h2])
  | (rename_i ih _ _ _; obtain ⟨⟨rfl, h1⟩, h2⟩ := h; rw [ih h1, D.same_eq h2])
  | (rename_i ih1 ih2 ih3 ih4 _ _ _ _ _; obtain ⟨⟨⟨⟨rfl, h1⟩, h2⟩, h3⟩, h4⟩ := h; rw [ih1 h1, ih2 h2, ih3 h3, ih4 h4])

def actPre:List (E×Bool)→List (E×Bool)→Bool
 | [],_=>true
 | p :: r,q :: s=>p.1.same q.1&&decide (p.2=q.2)&&actPre r s
 | _ :: _,[]=>false

theorem actPre_sub:∀{a b:List (E×Bool)},actPre a b=true→∀p,p∈a→p∈b
 | [],_,_,p,hp=>by cases hp
 | x :: r,y :: s,h,p,hp=>by
  simp only[actPre,Bool.and_eq_true,decide_eq_true_eq] at h
  obtain⟨⟨h1,h2⟩,h3⟩:=h
  have hxy:x=y:=Prod.ext (E.same_eq h1) h2
  subst hxy
  cases hp with
  | head=>simp
  | tail _ hp=>simp[actPre_sub h3 p hp]
 | _ :: _,[],h,_,_=>by simp[actPre] at h

def SV.strip (act:List (E×Bool)):SV→SV
 | .cond a sv=>if actPre a act then sv else .junk
 | sv=>sv

theorem SV.strip_rd {w:World}{ρ:Rho}{env:List D}{v:Value}{sv:SV}{act:List (E×Bool)}(h:SRd w ρ env v sv)(ha:actHolds env act):SRd w ρ env v (sv.strip act):=by
 unfold SV.strip
 split
 ·split
  ·rename_i hp
   exact h.cond_inv.2.1 fun p hq=>ha p (actPre_sub hp p hq)
  ·exact .junk
 ·exact h

mutual
def SV.same:SV→SV→Bool
 | .junk,.junk=>true
 | .e x s,.e y t=>x.same y&&decide (s=t)
 | .agg a,.agg b=>SV.sames a b
 | .tup a,.tup b=>SV.sames a b
 | .addr o f,.addr o' f'=>decide (o=o')&&decide (f=f')
 | .eaddr o x s f,.eaddr o' x' s' f'=>decide (o=o')&&x.same x'&&decide (s=s')&&decide (f=f')
 | .iptr x f,.iptr x' f'=>x.same x'&&decide (f=f')
 | .own x k,.own x' k'=>x.same x'&&decide (k=k')
 | .slc o,.slc o'=>decide (o=o')
 | .func fn a,.func fn' b=>decide (fn=fn')&&SV.sames a b
 | _,_=>false
def SV.sames:List SV→List SV→Bool
 | [],[]=>true
 | a :: r,b :: s=>a.same b&&SV.sames r s
 | _,_=>false
end

mutual
theorem SV.same_eq:∀{a b:SV},SV.same a b=true→a=b
 | .junk,b,h=>by cases b <;> first | rfl | simp[SV.same] at h
 | .e x s,b,h=>by cases b <;> first | (simp only[SV.same,Bool.and_eq_true,decide_eq_true_eq] at h;rw[E.same_eq h.1,h.2]) | simp[SV.same] at h
 | .agg a,b,h=>by cases b <;> first | (simp only[SV.same] at h;rw[SV.sames_eq h]) | simp[SV.same] at h
 | .tup a,b,h=>by cases b <;> first | (simp only[SV.same] at h;rw[SV.sames_eq h]) | simp[SV.same] at h
 | .addr o f,b,h=>by cases b <;> first | (simp only[SV.same,Bool.and_eq_true,decide_eq_true_eq] at h;rw[h.1,h.2]) | simp[SV.same] at h
 | .eaddr o x s f,b,h=>by cases b <;> first | (simp only[SV.same,Bool.and_eq_true,decide_eq_true_eq] at h;rw[h.1.1.1,E.same_eq h.1.1.2,h.1.2,h.2]) | simp[SV.same] at h
 | .iptr x f,b,h=>by cases b <;> first | (simp only[SV.same,Bool.and_eq_true,decide_eq_true_eq] at h;rw[E.same_eq h.1,h.2]) | simp[SV.same] at h
 | .own x k,b,h=>by cases b <;> first | (simp only[SV.same,Bool.and_eq_true,decide_eq_true_eq] at h;rw[E.same_eq h.1,h.2]) | simp[SV.same] at h
 | .slc o,b,h=>by cases b <;> first | (simp only[SV.same,decide_eq_true_eq] at h;rw[h]) | simp[SV.same] at h
 | .func fn a,b,h=>by cases b <;> first | (simp only[SV.same,Bool.and_eq_true,decide_eq_true_eq] at h;rw[h.1,SV.sames_eq h.2]) | simp[SV.same] at h
 | .cond act sv,b,h=>by cases b <;> simp[SV.same] at h
theorem SV.sames_eq:∀{a b:List SV},SV.sames a b=true→a=b
 | [],[],_=>rfl
 | a :: r,b :: s,h=>by
  simp only[SV.sames,Bool.and_eq_true] at h
  rw[SV.same_eq h.1,SV.sames_eq h.2]
 | [],_ :: _,h | _ :: _,[],h=>by simp[SV.sames] at h
end

end
end Go.Am

/-
 A region: its operations one after the other,guards and all.
-/
namespace Go.Am
noncomputable section

def SState.opd (σ:SState):Operand→SV
 | .tmp t=>σ.tmp t
 | .const v=>constSV v
 | .global _=>.junk
 | .func f=>.func (.func f) []

def SState.opv (σ:SState)(act:List (E×Bool))(x:Operand):SV:=(σ.opd x).strip act

def isAtom (ix:Nat):E→Bool
 | .sym k=>decide (k<ix)
 | .const _=>true
 | _=>false

def actOf (ops:Array Oper)(σ:SState)(ix:Nat)(g:Option (Nat×Bool)):Option (List (E×Bool)):=
 match g with
 | none=>some []
 | some (j,want)=>match(ops[j]?).bind (·.dst) with
  | some d=>match σ.tmp d with
   | .e x _=>some [(x,want)]
   | .cond act (.e x _)=>if isAtom ix x then some (act++[(x,want)]) else none
   | _=>none
  | none=>none

def lstep (P:Program)(o:Oper)(opv:List (E×Bool)→Operand→SV)(act:List (E×Bool))(obj:Nat→Option SObj)(ix:Nat):Option LRes:=
 match o.op with
 | .move x | .assign x=>some { val:=opv act x }
 | .pick c a b=>match(opv act c).toE with
  | some c'=>match(opv (act++[(c',true)]) a).toE,(opv (act++[(c',false)]) b).toE with
   | some a',some b'=>some { val:=.e (.sym ix) false,bind:=some (.ev (.ite c' a' b')) }
   | _,_=>none
  | none=>none
 | .alloc t=>if zeroOnes P t then lalloc P t o.dst else none
 | .box t x=>lbox P t (opv act x) o.dst obj ix
 | .load t x=>lload P t (opv act x) obj ix
 | .store t x y=>lstore P t (opv act x) (opv act y) obj ix
 | .nilCheck x=>lnil (opv act x) ix
 | .binOp op t x y _=>lbin P op t (opv act x) (opv act y) ix
 | .unOp op _ x=>lun op (opv act x) ix
 | .convert src dst x=>lconv P src dst (opv act x) ix
 | .fieldAddr s x f=>match lfieldAddr P s (opv act x) f with
  | some r=>some r
  | none=>lfieldE P s (opv act x) f ix
 | .indexAddr t x i=>lindexAddr P t (opv act x) (opv act i) obj ix
 | .extract x i=>lextract (opv act x) i ix
 | .call c=>match c.callee with
  | .builtin .len=>match c.args.toList,c.argTypes.toList with
   | [x],[t]=>llen P t (opv act x) obj ix
   | _,_=>none
  | .value f=>match opv act f with
   | .func (.func f) []=>lcall P f (c.args.toList.map (opv act)) obj ix
   | .e x _=>lcallv P x (c.args.toList.map (opv act)) o obj ix
   | _=>none
  | .invoke rc name=>linv P o (opv act rc) name (c.args.toList.map (opv act)) obj ix
  | _=>none
 | .makeFunc fn first caps=>lmkfn fn (first.toList.map (opv act)) (caps.toList.map (opv act)) ix
 | .build t parts=>lbuildS P t parts.toList (opv act) obj
 | _=>none

def guardAll (act:List (E×Bool))(x:E):E:=act.foldr (fun p e=>.guard p.1 p.2 e) x

def guardBind (act:List (E×Bool)):Option Bind→Option Bind
 | none=>none
 | some (.ev x)=>some (.ev (guardAll act x))
 | some (.call a f h args rs)=>some (.call (act++a) f h args rs)
 | some (.wcall a f h args rs)=>some (.wcall (act++a) f h args rs)
 | some (.callv a x h args rs)=>some (.callv (act++a) x h args rs)
 | some (.wcallv a x h args rs)=>some (.wcallv (act++a) x h args rs)

def wrapSV (act:List (E×Bool))(sv:SV):SV:=match act with | []=>sv | _=>.cond act sv

def SState.avoidsB (σ:SState)(d:Nat):Bool:=SV.avoidsAll d σ.tmps&&(σ.mem.all fun x=>match x with | some y=>y.avoids d | none=>true)&&match σ.hs with | some y=>y.avoids d | none=>true

def dstOk (σ:SState)(o:Oper):Bool:=noDefer o&&match o.dst with | some d=>decide (d<σ.tmps.length) | none=>true

theorem dstOk_spec {σ:SState}{o:Oper}(h:dstOk σ o=true):∀d,o.dst=some d→d<σ.tmps.length:=by
 intro d hd
 simp only[dstOk,hd,Bool.and_eq_true,decide_eq_true_eq] at h
 exact h.2

theorem dstOk_defer {σ:SState}{o:Oper}(h:dstOk σ o=true):noDefer o=true:=by
 simp only[dstOk,Bool.and_eq_true] at h
 exact h.1

section
variable {P:Program} {w w0:World} {X:Ent} {a:Act} {σ:SState} {env:List D} {ρ:Rho}

theorem opd_rd (h:Rep w0 X w a σ env ρ)(x:Operand):SRd w ρ env (a.eval x) (σ.opd x):=by
 cases x with
 | tmp t=>exact h.tmps t
 | const v=>exact constSV_rd v
 | global g=>exact .junk
 | func f=>exact .func (vs:=#[]) rfl (by simp)

theorem opv_rd (h:Rep w0 X w a σ env ρ){act:List (E×Bool)}(ha:actHolds env act)(x:Operand):SRd w ρ env (a.eval x) (σ.opv act x):=SV.strip_rd (opd_rd h x) ha

theorem guardAll_eval:∀{act:List (E×Bool)} {x:E} {d:D},actHolds env act→(guardAll act x).eval env=some d→x.eval env=some d
 | [],_,_,_,h=>h
 | p :: r,x,d,ha,h=>by
  have hp:=ha p (by simp)
  simp only[guardAll,List.foldr_cons,E.eval,hp,if_true] at h
  exact guardAll_eval (fun q hq=>ha q (by simp[hq])) h

theorem guardBind_ok {act:List (E×Bool)}{ix:Nat}{b:Option Bind}(ha:actHolds env act)(h:BindOk P env ix (guardBind act b)):BindOk P env ix b:=by
 cases b with
 | none=>trivial
 | some b=>
  cases b with
  | ev x=>obtain⟨d,h1,h2⟩:=h;exact⟨d,guardAll_eval ha h1,h2⟩
  | wcall act' f hx args rs=>
   obtain⟨st,d,h',h0,h1,h2,h3⟩:=h
   have hiff:actHolds env (act++act')↔actHolds env act':=⟨fun hh p hp=>hh p (by simp[hp]),fun hh p hp=>(List.mem_append.1 hp).elim (ha p) (hh p)⟩
   exact⟨st,d,h',h0,h1,fun ha'=>h2 (hiff.2 ha'),fun hn=>h3 fun hh=>hn (hiff.1 hh)⟩
  | wcallv act' x hx args rs=>
   obtain⟨st,d,h',h0,h1,h2,h3⟩:=h
   have hiff:actHolds env (act++act')↔actHolds env act':=⟨fun hh p hp=>hh p (by simp[hp]),fun hh p hp=>(List.mem_append.1 hp).elim (ha p) (hh p)⟩
   exact⟨st,d,h',h0,h1,fun ha'=>h2 (hiff.2 ha'),fun hn=>h3 fun hh=>hn (hiff.1 hh)⟩
  | callv act' x hx args rs=>
   obtain⟨d,h1,h2⟩:=h
   refine⟨d,h1,fun ha'=>h2 fun p hp=>?_⟩
   rcases List.mem_append.1 hp with hp | hp
   ·exact ha p hp
   ·exact ha' p hp
  | call act' f hx args rs=>
   obtain⟨d,h1,h2⟩:=h
   refine⟨d,h1,fun ha'=>h2 fun p hp=>?_⟩
   rcases List.mem_append.1 hp with hp | hp
   ·exact ha p hp
   ·exact ha' p hp

theorem isAtom_def {ix:Nat}{x:E}(h:isAtom ix x=true)(hix:ix≤env.length):∃d,x.eval env=some d:=by
 unfold isAtom at h
 split at h
 ·rename_i k
  simp only[decide_eq_true_eq] at h
  have hk:k<env.length:=Nat.lt_of_lt_of_le h hix
  exact⟨env[k],by simp only[E.eval];exact List.getElem?_eq_getElem hk⟩
 ·exact⟨_,rfl⟩
 ·cases h

theorem getD_of_lt {a:Array Value}{d:Nat}(h:d<a.size):a[d]? = some (a.getD d undef):=by
 rw[Array.getD_eq_getD_getElem?,Array.getElem?_eq_getElem h]
 rfl

theorem bool_lit {x:E}{v:Value}{d:D}{want:Bool}(hx:x.eval env=some d)(hr:RdD w ρ.S v d):v=.bool want↔x.eval env=some (.v (.bool want)):=by
 rw[hx]
 constructor
 ·rintro rfl
  cases hr
  rfl
 ·intro h
  cases h
  exact hr.v_eq

theorem wanted_iff {ops:Array Oper}{ix:Nat}{o:Oper}{act:List (E×Bool)}(h:Rep w0 X w a σ env ρ)(hix:ix≤env.length)(hsz:∀(j d:Nat),(ops[j]?).bind (fun(o:Oper)=>o.dst)=some d→d<σ.tmps.length)(hact:actOf ops σ ix o.guard=some act) :
  (∀p,p∈act→∃d,p.1.eval env=some d)∧(Region.wanted o (yielded ops a.tmps)=true↔actHolds env act):=by
 unfold actOf at hact
 cases hg:o.guard with
 | none=>
  simp only[hg] at hact
  cases hact
  exact⟨fun p hp=>(by cases hp),(by simp[Region.wanted,hg,actHolds])⟩
 | some g=>
  obtain⟨j,want⟩:=g
  simp only[hg] at hact
  split at hact
  ·rename_i d hd
   have hdl:=hsz j d hd
   have hslot:=h.tmps d
   have hy:Region.wanted o (yielded ops a.tmps)=true↔a.tmps.getD d undef=.bool want:=by
    simp only[Region.wanted,hg,yielded,hd,Option.bind_some,getD_of_lt (show d<a.tmps.size by rw[h.size];exact hdl)]
    cases a.tmps.getD d undef <;> simp
   split at hact
   ·rename_i x s hx
    cases hact
    rw[hx] at hslot
    obtain⟨dx,hdx,hrd,_⟩:=hslot.e_inv
    refine⟨fun p hp=>by simp at hp;subst hp;exact⟨dx,hdx⟩,?_⟩
    rw[hy,bool_lit hdx hrd]
    simp[actHolds]
   ·rename_i act' x s hx
    split at hact
    ·rename_i hat
     cases hact
     rw[hx] at hslot
     obtain⟨hdef,hyes,hno⟩:=hslot.cond_inv
     obtain⟨dx,hdx⟩:=isAtom_def (env:=env) hat hix
     refine⟨fun p hp=>?_,?_⟩
     ·rcases List.mem_append.1 hp with hp | hp
      ·exact hdef p hp
      ·simp at hp;subst hp;exact⟨dx,hdx⟩
     ·rw[hy]
      have hsplit:actHolds env (act'++[(x,want)])↔actHolds env act'∧x.eval env=some (.v (.bool want)):=by
       constructor
       ·intro hh
        exact⟨fun p hp=>hh p (by simp[hp]),hh (x,want) (by simp)⟩
       ·rintro⟨h1,h2⟩ p hp
        rcases List.mem_append.1 hp with hp | hp
        ·exact h1 p hp
        ·simp at hp;subst hp;exact h2
      rw[hsplit]
      by_cases ha:actHolds env act'
      ·obtain⟨dx',hdx',hrd,_⟩:=(hyes ha).e_inv
       rw[bool_lit hdx' hrd]
       simp[ha]
      ·rw[hno ha]
       simp[ha,undef]
    ·cases hact
   ·cases hact
  ·cases hact

theorem avoidsB_spec {d:Nat}(h:σ.avoidsB d=true):σ.avoids d:=by
 simp only[SState.avoidsB,Bool.and_eq_true] at h
 refine⟨fun t=>?_,fun o' x hx=>?_⟩
 ·simp only[SState.tmp_def]
  rw[List.getD_eq_getElem?_getD]
  cases ht:σ.tmps[t]? with
  | none=>rfl
  | some c=>exact SV.avoidsAll_get h.1.1 ht
 ·simp only[SState.obj_def] at hx
  split at hx
  ·have h2:=h.2
   rw[hx] at h2
   exact h2
  ·rw[List.getD_eq_getElem?_getD] at hx
   cases ho:σ.mem[o']? with
   | none=>rw[ho] at hx;cases hx
   | some y=>
    rw[ho] at hx
    simp only[Option.getD_some] at hx
    subst hx
    have:=List.all_eq_true.1 h.1.2 _ (List.mem_of_getElem? ho)
    simpa using this

theorem wrap_rd {act:List (E×Bool)}{sv:SV}{v:Value}(hd:∀p,p∈act→∃d,p.1.eval env=some d)(h:actHolds env act)(hv:SRd w ρ env v sv):SRd w ρ env v (wrapSV act sv):=by
 cases act with
 | nil=>exact hv
 | cons p r=>exact .cond hd (fun _=>hv) fun hn=>absurd h hn


def freshOk (σ:SState)(o:Oper)(upd:Option (Nat×SObj)):Prop:=
 ∀ob x,upd=some (ob,x)→match o.op with
  | .alloc _=>σ.obj ob=none∧σ.avoids ob
  | .box _ y=>σ.obj ob=none∧σ.avoids ob∧(σ.opv [] y).avoids ob=true
  | _=>True

theorem actHolds_nil:actHolds env []:=fun p hp=>(by cases hp)

theorem lstep_sound {o:Oper} {act:List (E×Bool)} {ix:Nat} {r:LRes} (h:Rep w0 X w a σ env ρ) (ha:actHolds env act) (hl:lstep P o σ.opv act σ.obj ix=some r) (hd:∀d,o.dst=some d→d<σ.tmps.length) (hm:σ.mem.length=σ.tmps.length)
  (hb:BindOk P env ix r.bind) (hf:freshOk σ o r.upd) (hact:(∃t x,o.op=.box t x)→r.upd≠none→act=[]):(r.upd=none∧OpOk P o a w w0 X (σ.put o.dst r.val) env)∨(∃ob x,r.upd=some (ob,x)∧OpOk P o a w w0 X ((σ.setObj ob (some x)).put o.dst r.val) env):=by
 have hv:=fun x=>opv_rd (a:=a) h ha x
 have hobj:∀ob y,σ.obj ob=some y→ob=HID∨ob<σ.mem.length:=by
  intro ob y hy
  simp only[SState.obj_def] at hy
  split at hy
  ·exact .inl (by assumption)
  ·rw[List.getD_eq_getElem?_getD] at hy
   rcases Nat.lt_or_ge ob σ.mem.length with h1 | h1
   ·exact .inr h1
   ·rw[List.getElem?_eq_none h1] at hy;cases hy
 unfold lstep at hl
 split at hl
 ·rename_i x ho;cases hl;exact .inl ⟨rfl,lmove_sound (.inl ho) (hv x) h hd⟩
 ·rename_i x ho;cases hl;exact .inl ⟨rfl,lmove_sound (.inr ho) (hv x) h hd⟩
 ·rename_i c x y ho
  split at hl
  ·rename_i c' hc
   split at hl
   ·rename_i x' y' hx hy
    cases hl
    obtain⟨dc,hdc,hrc⟩:=SV.toE_rd hc (hv c)
    obtain⟨dz,he,hix⟩:=hb
    simp only[E.eval,hdc] at he
    have hbr:∀b,dc=.v (.bool b)→actHolds env (act++[(c',b)]):=by
     intro b hb' p hp
     rcases List.mem_append.1 hp with hp | hp
     ·exact ha p hp
     ·simp at hp;subst hp;rw[hdc,hb']
    split at he
    ·rename_i heq
     cases heq
     have hcv:=hrc.v_eq
     obtain⟨dx,hdx,hrx⟩:=SV.toE_rd hx (opv_rd (a:=a) h (hbr true rfl) x)
     rw[hdx] at he
     cases he
     exact .inl ⟨rfl,opOk_same h hd (v:=a.eval x) (by unfold execOp;simp[ho,hcv,asBool]) (.e (by rw[E.eval,hix]) hrx (by simp))⟩
    ·rename_i heq
     cases heq
     have hcv:=hrc.v_eq
     obtain⟨dy,hdy,hry⟩:=SV.toE_rd hy (opv_rd (a:=a) h (hbr false rfl) y)
     rw[hdy] at he
     cases he
     exact .inl ⟨rfl,opOk_same h hd (v:=a.eval y) (by unfold execOp;simp[ho,hcv,asBool]) (.e (by rw[E.eval,hix]) hry (by simp))⟩
    ·cases he
   ·cases hl
  ·cases hl
 ·rename_i t ho
  split at hl
  ·rename_i hz
   have hd2:∃d x,o.dst=some d∧r.upd=some (d,x):=by
    unfold lalloc at hl
    split at hl
    ·cases hl;exact⟨_,_,by assumption,rfl⟩
    ·cases hl
   obtain⟨d0,x0,hd0,hu0⟩:=hd2
   have hf':=hf d0 x0 hu0
   rw[ho] at hf'
   obtain⟨d,x,hdst,hu,_,hok⟩:=lalloc_sound ho hz hl h hd hm (fun d hd'=>by rw[hd0] at hd';cases hd';exact hf')
   exact .inr ⟨d,x,hu,hok⟩
  ·cases hl
 ·rename_i t x ho
  have hd2:∃d x,o.dst=some d∧r.upd=some (d,x):=by
   unfold lbox at hl
   split at hl
   ·obtain⟨_,_,rfl⟩:=Option.map_eq_some_iff.1 hl
    exact⟨_,_,by assumption,rfl⟩
   ·cases hl
  obtain⟨d0,x0,hd0,hu0⟩:=hd2
  have hact0:act=[]:=hact ⟨_,_,ho⟩ (by rw[hu0];simp)
  subst hact0
  have hf':=hf d0 x0 hu0
  rw[ho] at hf'
  obtain⟨d,y,hdst,hu,hok⟩:=lbox_sound ho hl (hv x) h hd hm (fun d hd'=>by rw[hd0] at hd';cases hd';exact hf') hb
  exact .inr ⟨d,y,hu,hok⟩
 ·rename_i t x ho;exact .inl (lload_sound ho hl (hv x) h hd hb)
 ·rename_i t x y ho
  obtain⟨ob,z,hu,_,hval,hok⟩:=lstore_sound ho hl (hv x) (hv y) h hd hobj hb
  rw[hval]
  exact .inr ⟨ob,z,hu,hok⟩
 ·rename_i x ho;exact .inl (lnil_sound ho hl (hv x) h hd hb)
 ·rename_i op t x y yt ho;exact .inl (lbin_sound ho hl (hv x) (hv y) h hd hb)
 ·rename_i op t x ho;exact .inl (lun_sound ho hl (hv x) h hd hb)
 ·rename_i src dst x ho;exact .inl (lconv_sound ho hl (hv x) h hd hb)
 ·rename_i s x f ho
  split at hl
  ·rename_i hr
   cases hl
   obtain⟨h1,_,h2⟩:=lfieldAddr_sound ho hr (hv x) h hd
   exact .inl ⟨h1,h2⟩
  ·exact .inl (lfieldE_sound ho hl (hv x) h hd hb)
 ·rename_i t x i ho;exact .inl (lindexAddr_sound ho hl (hv x) (hv i) h hd hb)
 ·rename_i x i ho;exact .inl (lextract_sound ho hl (hv x) h hd hb)
 ·rename_i c ho
  obtain⟨callee,args,ts⟩:=c
  simp only at hl
  split at hl
  ·split at hl
   ·rename_i x t hx ht
    have e1:args=#[x]:=by rw[←Array.toArray_toList (xs:=args),hx]
    have e2:ts=#[t]:=by rw[←Array.toArray_toList (xs:=ts),ht]
    subst e1 e2
    exact .inl (llen_sound ho hl (hv x) h hd hb)
   ·cases hl
  ·rename_i c
   split at hl
   ·rename_i f hfv
    have hc:a.eval c=.func (.func f) #[] #[]:=by
     have:=hv c
     rw[hfv] at this
     obtain⟨vs,he,hl',_⟩:=this.func_inv
     rw[he]
     have:vs=#[]:=by simpa using hl'
     rw[this]
    exact(lcall_sound ho hc hl (by simp) (fun i x s hi hs=>by
     simp only[List.getElem?_map,Array.getElem?_toList,hi,Option.map_some,Option.some.injEq] at hs
     subst hs
     exact hv x) h hd hb)
   ·rename_i x s hfv
    have hc:=hv c
    rw[hfv] at hc
    exact lcallv_sound ho hc hl (by simp) (fun i x s hi hs=>by
     simp only[List.getElem?_map,Array.getElem?_toList,hi,Option.map_some,Option.some.injEq] at hs
     subst hs
     exact hv x) h hd hb
   ·cases hl
  ·rename_i rc name
   exact linv_sound ho hv hl h hd hb
  ·cases hl
 ·rename_i fn first caps ho
  exact .inl (lmkfn_sound ho hl (by simp) (by simp) (fun i x s hi hs=>by
     simp only[List.getElem?_map,Array.getElem?_toList,hi,Option.map_some,Option.some.injEq] at hs
     subst hs
     exact hv x) (fun i x s hi hs=>by
     simp only[List.getElem?_map,Array.getElem?_toList,hi,Option.map_some,Option.some.injEq] at hs
     subst hs
     exact hv x) h hd hb)
 ·rename_i t parts ho
  exact .inl (lbuildS_sound ho hv hl h hd)
 ·cases hl

end
end
end Go.Am

/-
 Slices that grow: the right to append is an object of the call's own;what is appended can be read by everybody.
-/
namespace Go.Am
noncomputable section

structure GBy (w w':World)(row:Option Nat):Prop where
 os:w'.os=w.os
 tape:TL w' w
 output:w'.output=w.output
 size:w.heap.size≤w'.heap.size
 block:∀k,k<w.heap.size→some k≠row→w'.heap[k]? = w.heap[k]?

/-! ## append,with where the new slice lies -/

section
variable {P:Program} (w:World)

theorem run_append_cases (t ty e:TypeId) (i:TypeInfo) (z:Value) (size bytes:Nat) (ht:P.underlying t=some (.slice e)) (hi:P.info? e=some i) (hz:i.zero=some z)
  (hsize:i.size=size) (hby:i.bytes=bytes) (hzs:z.cells.size=size) (hsz:0<size)
  (v:Value) (n:Nat) (xs:List Value) (hown:w.ownsRow 0 e size v n xs)
  (a:Addr) (m c:Nat) (news:List Value) (hl:news.length=m*size) (hnews:∀j u,news[j]? = some u→w.cell? (a.add j)=some u) (h1:∀u∈news,u.oneCell'=true)
  (h63:n+m≤maxLen) (hbytes:(n+m)*bytes≤140737488355328) :
  ∃v' w',(Builtin.append_ #[t,t] ty #[v,.slice (some a) m c]).run P w=.ok v' w'∧w'.ownsRow 0 e size v' (n+m) (xs++news) ∧
   ((v'.ownBlock=v.ownBlock∧GBy w w' v.ownBlock)∨(v'.ownBlock=some w.heap.size∧GBy w w' none)):=by
 subst hsize
 subst hby
 have hsmall:n+m≤9223372036854775807:=by simp only[maxLen] at h63;omega
 have hlen:(xs++news).length=(n+m)*i.size:=by rw[List.length_append,hown.1,hl,Nat.add_mul]
 have grown:∀(old:Nat),old<n+m →
   (w.drew.alloc (.cells (xs.toArray++news.toArray++Builtin.zeroCells z.cells (grownCap w (n+m) old e-(n+m))) e)).ownsRow 0 e i.size
    (.slice (some ⟨w.heap.size,0,none⟩) (n+m) (grownCap w (n+m) old e)) (n+m) (xs++news) ∧
   GBy w (w.drew.alloc (.cells (xs.toArray++news.toArray++Builtin.zeroCells z.cells (grownCap w (n+m) old e-(n+m))) e)) none:=by
  intro old ho
  have hge:=grownCap_ge w (n+m) old e
  have hcm:grownCap w (n+m) old e≤maxLen:=grownCap_le_maxLen w (n+m) old e h63
  refine⟨⟨hlen,.inr ⟨w.heap.size,_,_,rfl,Nat.zero_le _,heap_alloc_new w.drew _,hge,hcm,?_,?_⟩⟩,⟨rfl,⟨rfl,by simp⟩,rfl,by simp,fun k hk _=>heapOld w.drew _ k hk⟩⟩
  ·simp only[Array.size_append,List.size_toArray,size_zeroCells,hzs,hown.1,hl,←Nat.add_mul]
   congr 1
   omega
  ·simp only[Array.toList_append,List.append_assoc]
   rw[←List.append_assoc,←hlen]
   exact List.take_left
 rcases hown.2 with⟨rfl,rfl⟩ | ⟨g,cap,cur,rfl,hbg,hg,hnc,hcm,hcs,htake⟩
 ·have hx:xs=[]:=List.eq_nil_of_length_eq_zero (by simpa using hown.1)
  subst hx
  by_cases hm:m=0
  ·subst hm
   have hn:news=[]:=List.eq_nil_of_length_eq_zero (by simpa using hl)
   subst hn
   refine⟨.slice none 0 0,w,?_,World.ownsRow_nil w 0 e i.size,.inl ⟨rfl,⟨rfl,.refl _,rfl,Nat.le_refl _,fun _ _ _=>rfl⟩⟩⟩
   simp[Builtin.append_,run_underlying ht,sizeOf,typeInfo,hi,Builtin.lenOf,Builtin.firstCells,loadCells,loadCellsFrom]
  ·have hr:=run_append_nil (P:=P) w t ty e i z ht hi hz a m c news hl hnews (by omega) (by omega) (by have hb:=hbytes;simp only[Nat.zero_add] at hb;omega)
   have hgr:=grown 0 (by omega)
   simp only[Nat.zero_add,List.nil_append,Array.empty_append] at hgr ⊢
   exact⟨_,_,hr,hgr.1,.inr ⟨rfl,hgr.2⟩⟩
 ·by_cases hroom:n+m≤cap
  ·have hfit:n*i.size+news.length≤cur.size:=by rw[hl,hcs,←Nat.add_mul];exact Nat.mul_le_mul_right _ hroom
   have hr:=run_append_room (P:=P) w t ty e i ht hi g n cap cur hg a m c news hl hnews h1 hroom hfit
   refine⟨_,_,hr,⟨hlen,.inr ⟨g,cap,_,rfl,hbg,setRow_heap w g cur _ e _ hg,hroom,hcm,?_,?_⟩⟩,.inl ⟨rfl,⟨rfl,⟨rfl,Nat.le_refl _⟩,rfl,by simp,fun k _ hk=>setRow_other w g k _ (fun e=>hk (by simp[Value.ownBlock,e]))⟩⟩⟩
   ·simp only[List.size_toArray,List.length_append,List.length_take,List.length_drop,Array.length_toList]
    omega
   ·rw[htake,←hlen]
    exact List.take_left
  ·have holds:∀j u,xs[j]? = some u→w.cell? ((⟨g,0,none⟩:Addr).add j)=some u:=hown.cells (g:=g) rfl
   have hr:=run_append_grow (P:=P) w t ty e i z ht hi hz ⟨g,0,none⟩ n cap xs hown.1 holds a m c news hl hnews (by omega) (by omega) (growslice_fits (by omega) hbytes)
   have hgr:=grown cap (by omega)
   exact⟨_,_,hr,hgr.1,.inr ⟨rfl,hgr.2⟩⟩

theorem run_append_none (t ty e:TypeId)(i:TypeInfo)(ht:P.underlying t=some (.slice e))(hi:P.info? e=some i)(ad:Option Addr)(n cap:Nat)(hn:n≤cap) :
  (Builtin.append_ #[t,t] ty #[.slice ad n cap,.slice none 0 0]).run P w=.ok (.slice ad n cap) w:=by
 cases ad <;> simp[Builtin.append_,run_underlying ht,sizeOf,typeInfo,hi,Builtin.lenOf,Builtin.firstCells,loadCells,hn,storeCells]

theorem run_append_zero (t ty e:TypeId)(i:TypeInfo)(ht:P.underlying t=some (.slice e))(hi:P.info? e=some i)(ad:Option Addr)(n cap:Nat)(hn:n≤cap)(a:Addr)(c:Nat) :
  (Builtin.append_ #[t,t] ty #[.slice ad n cap,.slice (some a) 0 c]).run P w=.ok (.slice ad n cap) w:=by
 cases ad <;> simp[Builtin.append_,run_underlying ht,sizeOf,typeInfo,hi,Builtin.lenOf,Builtin.firstCells,loadCells,loadCellsFrom,hn,storeCells]

end

/-! ## a slice's right to grow is taken back: what is left can be read -/

mutual
def SV.down (k:Nat):SV→SV
 | .own x k'=>if k'=k then .e x true else .own x k'
 | .agg cs=>.agg (SV.downs k cs)
 | .tup cs=>.tup (SV.downs k cs)
 | .func fn cs=>.func fn (SV.downs k cs)
 | .cond act sv=>.cond act (sv.down k)
 | .junk=>.junk
 | .e x s=>.e x s
 | .iptr x f=>.iptr x f
 | .addr o f=>if o=k then .junk else .addr o f
 | .eaddr o x s f=>if o=k then .junk else .eaddr o x s f
 | .slc o=>if o=k then .junk else .slc o
def SV.downs (k:Nat):List SV→List SV
 | []=>[]
 | s :: r=>s.down k :: SV.downs k r
end

theorem SV.downs_get {k:Nat}:∀{cs:List SV} {i:Nat} {c:SV},(SV.downs k cs)[i]? = some c→∃c',cs[i]? = some c'∧c=c'.down k
 | [],i,c,h=>by simp[SV.downs] at h
 | s :: r,0,c,h=>by simp[SV.downs] at h;exact⟨s,rfl,h.symm⟩
 | s :: r,i+1,c,h=>by
  simp[SV.downs] at h
  obtain⟨c',h1,h2⟩:=SV.downs_get h
  exact⟨c',by simpa using h1,h2⟩

theorem SV.downs_length {k:Nat}:∀(cs:List SV),(SV.downs k cs).length=cs.length
 | []=>rfl
 | _ :: r=>by simp[SV.downs,SV.downs_length r]

mutual
theorem SV.down_avoids {k:Nat}:∀(sv:SV),(sv.down k).avoids k=true
 | .own x k'=>by
  simp only[SV.down]
  split
  ·rfl
  ·simpa[SV.avoids] using(by assumption:¬k'=k)
 | .agg cs=>by simp only[SV.down,SV.avoids];exact SV.downs_avoids cs
 | .tup cs=>by simp only[SV.down,SV.avoids];exact SV.downs_avoids cs
 | .func fn cs=>by simp only[SV.down,SV.avoids];exact SV.downs_avoids cs
 | .cond act sv=>by simp only[SV.down,SV.avoids];exact SV.down_avoids sv
 | .junk | .e x s | .iptr x f=>rfl
 | .addr o f=>by
  simp only[SV.down]
  split
  ·rfl
  ·simpa[SV.avoids] using(by assumption:¬o=k)
 | .eaddr o x s f=>by
  simp only[SV.down]
  split
  ·rfl
  ·simpa[SV.avoids] using(by assumption:¬o=k)
 | .slc o=>by
  simp only[SV.down]
  split
  ·rfl
  ·simpa[SV.avoids] using(by assumption:¬o=k)
theorem SV.downs_avoids {k:Nat}:∀(cs:List SV),SV.avoidsAll k (SV.downs k cs)=true
 | []=>rfl
 | s :: r=>by simp only[SV.downs,SV.avoidsAll,Bool.and_eq_true];exact⟨SV.down_avoids s,SV.downs_avoids r⟩
end

theorem SRd.down {w:World}{ρ:Rho}{env:List D}{v:Value}{sv:SV}(k:Nat)(h:SRd w ρ env v sv):SRd w ρ env v (sv.down k):=by
 induction h with
 | junk=>exact .junk
 | e hx h h1=>exact .e hx h h1
 | agg hl ho _ ih=>exact .agg (by rw[SV.downs_length];exact hl) ho fun i v c hv hc=>by obtain⟨c',h1,rfl⟩:=SV.downs_get hc;exact ih i v c' hv h1
 | tup hl _ ih=>exact .tup (by rw[SV.downs_length];exact hl) fun i v c hv hc=>by obtain⟨c',h1,rfl⟩:=SV.downs_get hc;exact ih i v c' hv h1
 | addr=>simp only[SV.down];split;exact .junk;exact .addr
 | eaddr hx=>simp only[SV.down];split;exact .junk;exact .eaddr hx
 | iptr hx h=>exact .iptr hx h
 | own hx h hv=>
  simp only[SV.down]
  split
  ·exact .e hx h fun _=>rfl
  ·exact .own hx h hv
 | slc=>simp only[SV.down];split;exact .junk;exact .slc
 | func hl _ ih=>exact .func (by rw[SV.downs_length];exact hl) fun i v c hv hc=>by obtain⟨c',h1,rfl⟩:=SV.downs_get hc;exact ih i v c' hv h1
 | cond hd _ hn ih=>exact .cond hd ih hn

def SObj.down (k:Nat):SObj→SObj
 | .box cs=>.box (SV.downs k cs)
 | x=>x

def SState.down (k:Nat)(σ:SState):SState:={ tmps:=SV.downs k σ.tmps,mem:=(σ.mem.map fun x=>x.map (SObj.down k)).set k none,hs:=if k=HID then none else σ.hs.map (SObj.down k) }

theorem SObj.down_ok {w:World}{ρ:Rho}{env:List D}{o:Nat}{x:SObj}(k:Nat)(h:ObjOk w ρ env o x):ObjOk w ρ env o (x.down k):=by
 cases x with
 | box cs=>
  obtain⟨vs,ty,h1,h2,h3,h4,h5⟩:=h
  exact⟨vs,ty,h1,by rw[SV.downs_length];exact h2,h3,fun i v c hv hc=>by obtain⟨c',h6,rfl⟩:=SV.downs_get hc;exact(h4 i v c' hv h6).down k,h5⟩
 | row y sz=>exact h
 | tok e sz=>exact h
 | store cf x=>exact h

theorem SObj.down_block (ρ:Rho)(o k:Nat)(x:SObj):objBlk ρ o (x.down k)=objBlk ρ o x:=by cases x <;> rfl

theorem SObj.down_avoids (k:Nat)(x:SObj):(x.down k).avoids k=true:=by
 cases x with
 | box cs=>exact SV.downs_avoids cs
 | row y sz=>rfl
 | tok e sz=>rfl
 | store cf x=>rfl

theorem SState.down_obj {σ:SState}{k o:Nat}{y:SObj}(hy:(σ.down k).obj o=some y):o≠k∧∃x,σ.obj o=some x∧y=x.down k:=by
 simp only[SState.obj_def,SState.down] at hy ⊢
 split at hy
 ·rename_i ho
  subst ho
  split at hy
  ·cases hy
  ·rename_i hk
   obtain⟨x,hx,rfl⟩:=Option.map_eq_some_iff.1 hy
   exact⟨fun e=>hk e.symm,x,by simpa using hx,rfl⟩
 ·rename_i hh
  simp only[List.getD_eq_getElem?_getD,List.getElem?_set,List.getElem?_map,List.length_map] at hy
  rw[if_neg hh]
  simp only[List.getD_eq_getElem?_getD]
  split at hy
  ·split at hy <;> simp at hy
  ·rename_i hne
   refine⟨fun e=>hne e.symm,?_⟩
   cases ho:σ.mem[o]? with
   | none=>rw[ho] at hy;simp at hy
   | some z=>
    rw[ho] at hy
    cases z with
    | none=>simp at hy
    | some x=>simp at hy;exact⟨x,rfl,hy.symm⟩

theorem SState.down_tmp {σ:SState}{k:Nat}(t:Nat):(σ.down k).tmp t=(σ.tmp t).down k:=by
 have go:∀(l:List SV) (t:Nat),(SV.downs k l).getD t .junk=(l.getD t .junk).down k:=by
  intro l
  induction l with
  | nil=>intro t;simp[SV.downs,SV.down]
  | cons s r ih=>
   intro t
   cases t with
   | zero=>simp[SV.downs]
   | succ t=>simpa[SV.downs] using ih t
 rw[SState.tmp_def,SState.tmp_def];exact go σ.tmps t

theorem SState.down_avoids (σ:SState)(k:Nat):(σ.down k).avoids k:=by
 refine⟨fun t=>?_,fun o y hy=>?_⟩
 ·rw[SState.down_tmp];exact SV.down_avoids _
 ·obtain⟨_,x,_,rfl⟩:=SState.down_obj hy
  exact SObj.down_avoids k x

theorem SState.down_len (σ:SState)(k:Nat):(σ.down k).tmps.length=σ.tmps.length∧(σ.down k).mem.length=σ.mem.length:=by
 simp[SState.down,SV.downs_length]

section
variable {P:Program} {w w' w0:World} {X:Ent} {a:Act} {σ:SState} {env:List D} {ρ:Rho}

theorem Rep.down (h:Rep w0 X w a σ env ρ)(k:Nat):Rep w0 X w a (σ.down k) env ρ:=by
 refine⟨by rw[(σ.down_len k).1];exact h.size,fun t=>by rw[SState.down_tmp];exact(h.tmps t).down k,fun o y hy=>?_,?_,?_,h.cells,h.os,h.tape,h.output,h.grown,h.old,h.sub,h.new,h.nod,h.hold⟩
 ·obtain⟨_,x,hx,rfl⟩:=SState.down_obj hy
  exact SObj.down_ok k (h.objs o x hx)
 ·intro o o' y y' b h1 h2 h3 h4
  obtain⟨_,x,hx,rfl⟩:=SState.down_obj h1
  obtain⟨_,x',hx',rfl⟩:=SState.down_obj h2
  rw[SObj.down_block] at h3 h4
  exact h.inj o o' x x' b hx hx' h3 h4
 ·intro o y b h1 h2
  obtain⟨_,x,hx,rfl⟩:=SState.down_obj h1
  rw[SObj.down_block] at h2
  exact(by have:=h.own o x b hx h2;cases x <;> exact this)

def Rho.withTok (ρ:Rho)(k:Nat)(v:Value)(cells:Nat):Rho:={ ρ with val:=fun x=>if x=k then v else ρ.val x,S:=ρ.S.or fun b i=>v.ownBlock=some b∧i<cells }

theorem Rho.withTok_more (ρ:Rho)(k:Nat)(v:Value)(c:Nat):ρ.More (ρ.withTok k v c) (·=k):=
 ⟨⟨fun _ _=>rfl,fun x hx=>by simp[Rho.withTok,hx],ρ.S.le_or _⟩,fun _=>rfl,fun _=>rfl⟩

theorem Rep.addTok (h:Rep w0 X w a σ env ρ) {k:Nat} (hk:k<σ.mem.length) (hfree:σ.obj k=none) (hav:σ.avoids k) {e:TypeId} {size:Nat} {v:Value} {n:Nat} {xs:List Value} (hown:w'.ownsRow 0 e size v n xs)
  (hK:Keeps ρ.S w w') (hb:∀o x b,σ.obj o=some x→objBlk ρ o x b→w'.heap[b]? = w.heap[b]?∧v.ownBlock≠some b) (hB:∀b,v.ownBlock=some b→w0.heap.size≤b∨X.may b)
  (hS:∀b,v.ownBlock=some b→∀off,n*size≤off→¬ρ.S b off) (hos:w'.os=w.os) (ht:TL w' w) (hout:w'.output=w.output) (hsz:w.heap.size≤w'.heap.size)
  (hold:∀b,b<w0.heap.size→¬X.may b→w'.heap[b]? = w.heap[b]?):Rep w0 X w' a (σ.setObj k (some (.tok e size))) env (ρ.withTok k v (n*size)):=by
 have hm:=ρ.withTok_more k v (n*size)
 have hne:∀o y,σ.obj o=some y→o≠k:=fun o y hy e=>by rw[e,hfree] at hy;cases hy
 have hlt:∀b,v.ownBlock=some b→b<w'.heap.size:=fun b hb'=>(hown.lt b hb').2
 have hval:(ρ.withTok k v (n*size)).val k=v:=by simp[Rho.withTok]
 refine⟨by rw[SState.tmps_setObj];exact h.size,fun t=>by rw[SState.tmp_setObj];exact(h.tmps t).keep hK hm fun o' e'=>by subst e';exact hav.1 t,?_,?_,?_,?_,hos.trans h.os,ht.trans h.tape,hout.trans h.output,Nat.le_trans h.grown hsz,fun b h1 h2=>(hold b h1 h2).trans (h.old b h1 h2),Sets.le_trans h.sub (ρ.S.le_or _),?_,h.nod,h.hold⟩
 ·intro o y hy
  rw[SState.obj_setObj hk] at hy
  by_cases e':o=k
  ·subst e'
   simp at hy
   subst hy
   refine⟨n,xs,by rw[hval];exact hown,fun b hb' off hoff hs=>?_⟩
   rw[hval] at hb'
   rcases hs with hs | ⟨_,hs⟩
   ·exact hS b hb' off hoff hs
   ·omega
  ·simp[e'] at hy
   refine(h.objs o y hy).keep hK hm e' (fun o'' e''=>by subst e'';exact hav.2 o y hy) (fun b hb'=>(hb o y b hy hb').1) fun b off hb' hs=>?_
   rcases hs with hs | ⟨hs,_⟩
   ·exact hs
   ·exact absurd hs (hb o y b hy hb').2
 ·intro o1 o2 y1 y2 b h1 h2 h3 h4
  rw[SState.obj_setObj hk] at h1 h2
  by_cases e1:o1=k <;> by_cases e2:o2=k
  ·rw[e1,e2]
  ·subst e1;simp at h1;subst h1
   simp[e2] at h2
   rw[objBlk_more hm e2 (h.objs _ _ h2)] at h4
   simp only[objBlk,hval] at h3
   exact absurd h3 (hb o2 y2 b h2 h4).2
  ·subst e2;simp at h2;subst h2
   simp[e1] at h1
   rw[objBlk_more hm e1 (h.objs _ _ h1)] at h3
   simp only[objBlk,hval] at h4
   exact absurd h4 (hb o1 y1 b h1 h3).2
  ·simp[e1] at h1;simp[e2] at h2
   rw[objBlk_more hm e1 (h.objs _ _ h1)] at h3
   rw[objBlk_more hm e2 (h.objs _ _ h2)] at h4
   exact h.inj o1 o2 y1 y2 b h1 h2 h3 h4
 ·intro o y b hy hb'
  rw[SState.obj_setObj hk] at hy
  by_cases e':o=k
  ·subst e';simp at hy;subst hy
   simp only[objBlk,hval] at hb'
   exact⟨.inr (hB b hb'),hlt b hb'⟩
  ·simp[e'] at hy
   rw[objBlk_more hm e' (h.objs _ _ hy)] at hb'
   obtain⟨h1,h2⟩:=h.own o y b hy hb'
   exact⟨h1,Nat.lt_of_lt_of_le h2 hsz⟩
 ·intro b o hs
  rcases hs with hs | ⟨hs,_⟩
  ·exact Nat.lt_of_lt_of_le (h.cells b o hs) hsz
  ·exact hlt b hs
 ·intro b o hs
  rcases hs with hs | ⟨hs,_⟩
  ·exact h.new b o hs
  ·exact .inr (hB b hs)

def RowRd (w:World)(S:Sets)(size:Nat)(xs:List Value)(es:List D):Prop:=
 xs.length=es.length*size∧(∀(i:Nat) (e:D),es[i]? = some e→e.cells.length=size) ∧
 ∀(i:Nat) (e:D) (j:Nat) (d:D),es[i]? = some e→e.cells[j]? = some d→d.one=true∧∃v,xs[i*size+j]? = some v∧RdD w S v d

theorem RowRd.keep {S S':Sets}{size:Nat}{xs:List Value}{es:List D}(h:RowRd w S size xs es)(hk:Keeps S w w')(hS:S≤S'):RowRd w' S' size xs es:=
 ⟨h.1,h.2.1,fun i e j d he hd=>let ⟨h1,v,h2,h3⟩:=h.2.2 i e j d he hd;⟨h1,v,h2,h3.keep hk hS⟩⟩

theorem index_lt {es:List D}{size i j:Nat}{e d:D}(hz:∀(i:Nat) (e:D),es[i]? = some e→e.cells.length=size)(he:es[i]? = some e)(hd:e.cells[j]? = some d):i*size+j<es.length*size∧j<size:=by
 have hi:i<es.length:=(List.getElem?_eq_some_iff.1 he).1
 have hj:j<size:=by rw[←hz i e he];exact(List.getElem?_eq_some_iff.1 hd).1
 refine⟨?_,hj⟩
 have:(i+1)*size≤es.length*size:=Nat.mul_le_mul_right _ hi
 rw[Nat.add_mul,Nat.one_mul] at this
 omega

theorem own_rd {S:Sets}{e:TypeId}{size n:Nat}{v:Value}{xs:List Value}{es:List D}(hown:w.ownsRow 0 e size v n xs)(hn:es.length=n)(hrow:RowRd w S size xs es)(hS:∀b,v.ownBlock=some b→∀i,i<n*size→S b i):RdD w S v (.lst es):=by
 rcases hown.2 with⟨rfl,rfl⟩ | ⟨g,cap,cur,rfl,_,hg,hnc,hcm,hcs,htake⟩
 ·have:es=[]:=List.eq_nil_of_length_eq_zero hn
  subst this
  exact .nil
 ·refine .lst (size:=size) (val:=fun i j=>xs.getD (i*size+j) undef) hn.symm hnc hcm hrow.2.1 (fun i e j d he hd=>(hrow.2.2 i e j d he hd).1) (fun i e j d he hd=>?_) (fun i e j d he hd=>?_) fun i e j d he hd=>?_
  ·refine hS g rfl _ ?_
   have:=(index_lt hrow.2.1 he hd).1
   rw[hn] at this
   omega
  ·obtain⟨_,v,hv,_⟩:=hrow.2.2 i e j d he hd
   have:=hown.cells (g:=g) rfl (i*size+j) v hv
   rw[addr_add] at this
   simp only[List.getD_eq_getElem?_getD,hv,Option.getD_some]
   rw[show 0+i*size+j=0+(i*size+j) from by omega]
   exact this
  ·obtain⟨_,v,hv,hr⟩:=hrow.2.2 i e j d he hd
   simp only[List.getD_eq_getElem?_getD,hv,Option.getD_some]
   exact hr

theorem own_row {S:Sets}{e:TypeId}{size n:Nat}{v:Value}{xs:List Value}{es:List D}(hown:w.ownsRow 0 e size v n xs)(h:RdD w S v (.lst es))(hz:allCells size es=true):es.length=n∧RowRd w S size xs es:=by
 have hzz:∀(i:Nat) (e:D),es[i]? = some e→e.cells.length=size:=fun i e he=>allCells_get hz he
 rcases hown.2 with⟨rfl,rfl⟩ | ⟨g,cap,cur,rfl,_,hg,hnc,hcm,hcs,htake⟩
 ·cases h
  have:xs=[]:=List.eq_nil_of_length_eq_zero (by simpa using hown.1)
  subst this
  exact⟨rfl,by simp,hzz,by simp⟩
 ·cases h with
  | emp _=>
   have:xs=[]:=List.eq_nil_of_length_eq_zero (by simpa using hown.1)
   subst this
   exact⟨rfl,by simp,hzz,by simp⟩
  | lst hl hc hm hz' ho hS hw hr=>
   refine⟨hl.symm,by rw[hown.1,hl],hzz,fun i e j d he hd=>⟨ho i e j d he hd,?_⟩⟩
   obtain⟨hlt,hj⟩:=index_lt hzz he hd
   have hsz:=(hz' i e he).symm.trans (hzz i e he)
   have hx:i*size+j<xs.length:=by rw[hown.1,hl];exact hlt
   refine⟨xs[i*size+j],List.getElem?_eq_getElem hx,?_⟩
   have h1:=hown.cells (g:=g) rfl _ _ (List.getElem?_eq_getElem hx)
   have h2:=hw i e j d he hd
   rw[addr_add] at h1
   rw[hsz,show 0+i*size+j=0+(i*size+j) from by omega,h1] at h2
   rw[Option.some.inj h2]
   exact hr i e j d he hd

end
end
end Go.Am
