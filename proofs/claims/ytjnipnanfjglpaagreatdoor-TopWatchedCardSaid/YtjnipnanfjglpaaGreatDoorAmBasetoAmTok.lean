/-
  Several texts, one behind the other.
-/
import Derived.Orders
import Derived.Tactics2
import Derived.Laws.AppendOwn
import Derived.Laws.OwnMore
import Derived.Laws.Rows
import Derived.Below
import Derived.Laws.BytesArg
import Derived.Laws.Externs
import Derived.Laws.CopyRow
import Derived.RangeFuncIn
import Derived.TacticsIn
import Derived.OrdersIn
import Derived.LoopNIn
import Derived.RangeFuncLeaves
import Derived.RangeFuncNested
import Derived.OwnWalkIn
import Derived.Laws.MakeOwn
import Derived.Laws.StructEq
import Derived.Laws.Pointers
import Derived.WalkSpells
import Derived.Laws.Tables
import Derived.Great.BuildSlice
set_option linter.unusedSimpArgs false
set_option linter.unusedVariables false
namespace Go.Am
section
abbrev A0a:=@List.getElem?_eq_some_iff
abbrev A0b:=@Option.map_eq_some_iff
abbrev A0c:=@Option.bind_eq_some_iff
abbrev A0d:=@Option.bind_some
abbrev A0e:=@Result.andThen_ok
abbrev A0f:=@List.getElem?_eq_getElem
abbrev A0g:=@Bool.and_eq_true
abbrev A0h:=@Array.getElem?_eq_some_iff
abbrev A0i:=@List.getD_eq_getElem?_getD
abbrev A0j:=@List.getElem?_append_left
abbrev A0k:=@Sem.run_bind
abbrev A0l:=@List.getElem?_append_right
abbrev A0m:=@Nat.le_refl
abbrev A0n:=@Sem.run_pure
abbrev A0o:=@Array.getElem?_eq_getElem
abbrev A0p:=@Array.getD_eq_getD_getElem?
abbrev A0q:=@List.cons_append
abbrev A0r:=@List.nil_append
abbrev A0s:=@Nat.lt_of_lt_of_le
abbrev A0t:=@List.length_append
abbrev A0u:=@Option.some.injEq
abbrev A0v:=@List.getElem?_map
abbrev A0w:=@List.eq_nil_of_length_eq_zero
abbrev A0x:=@List.getElem?_set
abbrev A0y:=@Option.map_some
abbrev A0z:=@List.all_eq_true
abbrev B0a:=@List.take_succ_eq_append_getElem
abbrev B0b:=@List.append_assoc
abbrev B0c:=@List.getElem?_take
abbrev B0d:=@List.getElem?_cons_zero
abbrev B0e:=@Nat.le_trans
abbrev B0f:=@Bool.false_eq_true
abbrev B0g:=@Array.toArray_toList
abbrev B0h:=@Bool.not_eq_true
abbrev B0i:=@List.mem_of_getElem?
abbrev B0j:=@Array.length_toList
abbrev B0k:=@Nat.zero_add
abbrev B0l:=@List.getElem?_set_ne
abbrev B0m:=@Option.getD_some
abbrev B0n:=@List.getElem?_toArray
abbrev B0o:=@List.getElem?_drop
abbrev B0p:=@List.mem_append
abbrev B0q:=@Option.isNone_iff_eq_none
abbrev B0r:=@List.mem_map
abbrev B0s:=@List.length_take
abbrev B0t:=@List.mem_cons

structure TL (a b:World):Prop where
 tape:a.tape=b.tape
 dr:b.drawn≤a.drawn

theorem TL.refl (w:World):TL w w:=⟨rfl,A0m _⟩
theorem TL.trans {a b c:World}(h:TL a b)(k:TL b c):TL a c:=⟨h.tape.trans k.tape,B0e k.dr h.dr⟩

structure Uz (B:Nat)(a w:World):Prop extends RowKit.Below B a w where
 dr:a.drawn≤w.drawn

theorem Uz.refl (B:Nat)(a:World):Uz B a a:=⟨⟨rfl,rfl,rfl,A0m _,fun _ _=>rfl⟩,A0m _⟩
theorem Uz.tl {B:Nat}{a w:World}(h:Uz B a w):TL w a:=⟨h.tape,h.dr⟩

/-! ## Data -/

inductive D where
 | v (x:Value)
 | agg (cs:List D)
 | a_ (es:List D)
 | ptr (cs:List D)
 | aM (ds:List D)
 | fq (t:TypeId) (d:D)
 | fn (f:FuncId) (first bF:List D)
 | loc (i off:Nat)
 | sl (i off len:Nat)
 | cO
 | bh (e:TypeId) (sz:Nat) (cs:List D)
 | mp (i:Nat)
 | fm (bH:List D)
 | itb (m n:Nat) (seen:List Nat)
 | mO (stop:Bool)
 | BV (s:ByteArray) (pos:Nat)
 | nL (g:Nat) (t:TypeId) (vs:List Value)
 | uc (i:Nat) (rec:Loop×Code) (sl:List Nat) (bF:List D)
 | yl (l:Nat) (rec:Loop) (sl:List Nat) (bF:List D)
 | st (bs:List D)
 deriving Inhabited

abbrev D.int (n:Int):D:=.v (.int .i64 n)
abbrev D.bool (b:Bool):D:=.v (.bool b)

def D.cells:D→List D
 | .agg cs=>cs
 | d=>[d]

def D.one:D→Bool
 | .agg _ | .aM _ | .bh _ _ _ | .st _ | .fm _ | .itb _ _ _ | .mO _ | .BV _ _ | .nL _ _ _=>false
 | _=>true

def plain:Value→Bool
 | .bool _ | .int _ _ | .float _ _ | .complex _ _ _ | .string _ | .pointer none | .map none | .chan none | .nilFunc | .nilIface=>true
 | .func _ f c=>f.isEmpty&&c.isEmpty
 | _=>false

theorem JI {x:Value}(h:plain x=true):x.oneCell'=true:=by
 cases x <;> simp[plain,Value.oneCell'] at *

structure Sets where
 mem:Nat→Nat→Prop
 loc:Nat→Nat
 n:Nat
 cap:Nat→Nat
 hold:Nat→Option Loop:=fun _=>none
 jt:Nat→Loop×Code:=fun _=>default

instance:CoeFun Sets (fun _=>Nat→Nat→Prop):=⟨Sets.mem⟩

structure Sets.Le (S S':Sets):Prop where
 mem:∀b o,S b o→S' b o
 n:S.n≤S'.n
 loc:∀i,i<S.n→S'.loc i=S.loc i
 cap:∀i,i<S.n→S'.cap i=S.cap i
 hold:S'.hold=S.hold
 jt:∀i,i<S.n→S'.jt i=S.jt i

instance:LE Sets:=⟨Sets.Le⟩

theorem Sets.le_refl (S:Sets):S≤S:=⟨fun _ _ h=>h,A0m _,fun _ _=>rfl,fun _ _=>rfl,rfl,fun _ _=>rfl⟩
theorem Sets.le_trans {S T U:Sets}(h:S≤T)(k:T≤U):S≤U:=
 ⟨fun b o x=>k.mem b o (h.mem b o x),B0e h.n k.n,fun i hi=>(k.loc i (A0s hi h.n)).trans (h.loc i hi),fun i hi=>(k.cap i (A0s hi h.n)).trans (h.cap i hi),k.hold.trans h.hold,fun i hi=>(k.jt i (A0s hi h.n)).trans (h.jt i hi)⟩

inductive aZ (w:World) (S:Sets):Value→D→Prop
 | v {x:Value} (h:plain x=true):aZ w S x (.v x)
 | agg {vs:Array Value} {ds:List D} (hl:vs.size=ds.length) (ho:∀(i:Nat) (d:D),ds[i]? = some d→d.one=true)
   (h:∀(i:Nat) (v:Value) (d:D),vs[i]? = some v→ds[i]? = some d→aZ w S v d):aZ w S (.agg vs) (.agg ds)
 | nil:aZ w S (.slice none 0 0) (.a_ [])
 | emp {a:Addr} {cap:Nat} (hm:cap≤maxLen):aZ w S (.slice (some a) 0 cap) (.a_ [])
 | a_ {b off len cap size:Nat} {es:List D} {val:Nat→Nat→Value} (hl:len=es.length) (hc:len≤cap) (hm:cap≤maxLen) (hz:∀(i:Nat) (e:D),es[i]? = some e→e.cells.length=size)
   (ho:∀(i:Nat) (e:D) (j:Nat) (d:D),es[i]? = some e→e.cells[j]? = some d→d.one=true)
   (hS:∀(i:Nat) (e:D) (j:Nat) (d:D),es[i]? = some e→e.cells[j]? = some d→S b (off+i*size+j))
   (hw:∀(i:Nat) (e:D) (j:Nat) (d:D),es[i]? = some e→e.cells[j]? = some d→w.cell? ⟨b,off+i*size+j,none⟩=some (val i j))
   (hr:∀(i:Nat) (e:D) (j:Nat) (d:D),es[i]? = some e→e.cells[j]? = some d→aZ w S (val i j) d):aZ w S (.slice (some ⟨b,off,none⟩) len cap) (.a_ es)
 | ptr {b off:Nat} {cs:List D} {val:Nat→Value} (ho:∀(j:Nat) (d:D),cs[j]? = some d→d.one=true) (hS:∀(j:Nat) (d:D),cs[j]? = some d→S b (off+j))
   (hw:∀(j:Nat) (d:D),cs[j]? = some d→w.cell? ⟨b,off+j,none⟩=some (val j))
   (hr:∀(j:Nat) (d:D),cs[j]? = some d→aZ w S (val j) d):aZ w S (.pointer (some ⟨b,off,none⟩)) (.ptr cs)
 | aM {vs:Array Value} {ds:List D} (hl:vs.size=ds.length)
   (h:∀(i:Nat) (v:Value) (d:D),vs[i]? = some v→ds[i]? = some d→aZ w S v d):aZ w S (.tuple vs) (.aM ds)
 | fq {t:TypeId} {v:Value} {d:D} (h:aZ w S v d):aZ w S (.iface t v) (.fq t d)
 | fn {f:FuncId} {us vs:Array Value} {ds es:List D} (hl:us.size=ds.length) (hl':vs.size=es.length)
   (h:∀(i:Nat) (v:Value) (d:D),us[i]? = some v→ds[i]? = some d→aZ w S v d) (h':∀(i:Nat) (v:Value) (d:D),vs[i]? = some v→es[i]? = some d→aZ w S v d):aZ w S (.func (.func f) us vs) (.fn f ds es)
 | loc {i off:Nat} (h:i<S.n):aZ w S (.pointer (some ⟨S.loc i,off,none⟩)) (.loc i off)
 | cO:aZ w S (.slice none 0 0) .cO
 | yl {l:Nat} {rec:Loop} {sl:List Nat} {bF:List D} (h:S.hold l=some rec) (hc:∀(i s:Nat) (d:D),sl[i]? = some s→bF[i]? = some d→aZ w S (rec.tmps.getD s undef) d):aZ w S (.func (.yield l) #[] #[]) (.yl l rec sl bF)
 | uc {i:Nat} {rec:Loop×Code} {sl:List Nat} {bF:List D} (h:i<S.n) (hr:S.jt i=rec) (hc:∀(j s:Nat) (d:D),sl[j]? = some s→bF[j]? = some d→aZ w S (rec.1.tmps.getD s undef) d):aZ w S (.func (.yield (S.loc i)) #[] #[]) (.uc i rec sl bF)
 | mp {i:Nat} (h:i<S.n):aZ w S (.map (some (S.loc i))) (.mp i)
 | sl {i off len c:Nat} (h:i<S.n) (hl:len≤c) (hc:c≤maxLen) (h0:off=0→c=S.cap i):aZ w S (.slice (some ⟨S.loc i,off,none⟩) len c) (.sl i off len)

def bp (S:Sets)(w w':World):Prop:=∀b o,S b o→w'.cell? ⟨b,o,none⟩=w.cell? ⟨b,o,none⟩

theorem bp.refl (S:Sets)(w:World):bp S w w:=fun _ _ _=>rfl
theorem bp.trans {S:Sets}{a b c:World}(h:bp S a b)(k:bp S b c):bp S a c:=fun x o hS=>(k x o hS).trans (h x o hS)

theorem aZ.keep {w w':World}{S S':Sets}{v:Value}{d:D}(h:aZ w S v d)(hk:bp S w w')(hS:S≤S'):aZ w' S' v d:=by
 induction h with
 | v h=>exact .v h
 | agg hl ho _ ih=>exact .agg hl ho ih
 | nil=>exact .nil
 | emp hm=>exact .emp hm
 | a_ hl hc hm hz ho jF hw _ ih=>exact .a_ hl hc hm hz ho (fun i e j d h1 h2=>hS.mem _ _ (jF i e j d h1 h2)) (fun i e j d h1 h2=>(hk _ _ (jF i e j d h1 h2)).trans (hw i e j d h1 h2)) ih
 | ptr ho jF hw _ ih=>exact .ptr ho (fun j d h1=>hS.mem _ _ (jF j d h1)) (fun j d h1=>(hk _ _ (jF j d h1)).trans (hw j d h1)) ih
 | aM hl _ ih=>exact .aM hl ih
 | fq _ ih=>exact .fq ih
 | fn hl hl' _ _ ih J3=>exact .fn hl hl' ih J3
 | cO=>exact .cO
 | yl h _ ih=>exact .yl (by rw[hS.hold];exact h) ih
 | uc h hr _ ih=>rw[←hS.loc _ h];exact .uc (A0s h hS.n) ((hS.jt _ h).trans hr) ih
 | mp h=>rw[←hS.loc _ h];exact .mp (A0s h hS.n)
 | loc h=>rw[←hS.loc _ h];exact .loc (A0s h hS.n)
 | sl h hl hc h0=>rw[←hS.loc _ h];exact .sl (A0s h hS.n) hl hc fun e=>(h0 e).trans (hS.cap _ h).symm

mutual
def D.dG:D→Bool
 | .v _ | .cO | .loc _ _ | .sl _ _ _ | .mp _ | .itb _ _ _ | .mO _ | .BV _ _ | .nL _ _ _=>true
 | .agg cs | .a_ cs | .ptr cs | .aM cs | .bh _ _ cs | .fm cs | .st cs | .uc _ _ _ cs=>aT cs
 | .fq _ d=>d.dG
 | .fn _ a b=>aT a&&aT b
 | .yl _ _ _ _=>false
def aT:List D→Bool
 | []=>true
 | d :: r=>d.dG&&aT r
end

theorem ef:∀{ds:List D} {i:Nat} {d:D},aT ds=true→ds[i]? = some d→d.dG=true
 | [],_,_,_,h=>by simp at h
 | x :: r,0,d,h,hi=>by simp[aT] at h hi;exact hi ▸ h.1
 | x :: r,i+1,d,h,hi=>by simp[aT] at h hi;exact ef h.2 hi

theorem Gn {d c:D}{j:Nat}(h:d.dG=true)(hc:d.cells[j]? = some c):c.dG=true:=by
 cases d <;> first
 |(simp only[D.cells] at hc;simp only[D.dG] at h;exact ef h hc)
 |(cases j with
    | zero=>simp only[D.cells,B0d,A0u] at hc;subst hc;exact h
    | succ j=>simp[D.cells] at hc)

structure Sets.KY (S S':Sets):Prop where
 mem:∀b o,S b o→S' b o
 n:S.n=S'.n
 loc:∀i,S'.loc i=S.loc i
 cap:∀i,S'.cap i=S.cap i
 jt:∀i,S'.jt i=S.jt i

theorem aZ.like {w:World}{S S':Sets}{v:Value}{d:D}(h:aZ w S v d)(hS:S.KY S')(hd:d.dG=true):aZ w S' v d:=by
 induction h with
 | v h=>exact .v h
 | agg hl ho _ ih=>exact .agg hl ho fun i v d h1 h2=>ih i v d h1 h2 (ef (by simpa[D.dG] using hd) h2)
 | nil=>exact .nil
 | emp hm=>exact .emp hm
 | a_ hl hc hm hz ho jF hw _ ih=>exact .a_ hl hc hm hz ho (fun i e j d h1 h2=>hS.mem _ _ (jF i e j d h1 h2)) hw fun i e j d h1 h2=>ih i e j d h1 h2 (Gn (ef (by simpa[D.dG] using hd) h1) h2)
 | ptr ho jF hw _ ih=>exact .ptr ho (fun j d h1=>hS.mem _ _ (jF j d h1)) hw fun j d h1=>ih j d h1 (ef (by simpa[D.dG] using hd) h1)
 | aM hl _ ih=>exact .aM hl fun i v d h1 h2=>ih i v d h1 h2 (ef (by simpa[D.dG] using hd) h2)
 | fq _ ih=>exact .fq (ih (by simpa[D.dG] using hd))
 | fn hl hl' _ _ ih J3=>
  simp only[D.dG,A0g] at hd
  exact .fn hl hl' (fun i v d h1 h2=>ih i v d h1 h2 (ef hd.1 h2)) fun i v d h1 h2=>J3 i v d h1 h2 (ef hd.2 h2)
 | cO=>exact .cO
 | mp h=>rw[←hS.loc _];exact .mp (by rw[←hS.n];exact h)
 | loc h=>rw[←hS.loc _];exact .loc (by rw[←hS.n];exact h)
 | sl h hl hc h0=>rw[←hS.loc _];exact .sl (by rw[←hS.n];exact h) hl hc fun e=>(h0 e).trans (hS.cap _).symm
 | yl _ _ _=>simp[D.dG] at hd
 | uc h hr _ ih=>rw[←hS.loc _];exact .uc (by rw[←hS.n];exact h) ((hS.jt _).trans hr) fun i s d h1 h2=>ih i s d h1 h2 (ef (by simpa[D.dG] using hd) h2)

theorem aZ.LR {w:World}{S S':Sets}{v:Value}{d:D}(h:aZ w S v d)(hS:S.KY S')(hh:∀l rec,S.hold l=some rec→S'.hold l=some rec):aZ w S' v d:=by
 induction h with
 | v h=>exact .v h
 | agg hl ho _ ih=>exact .agg hl ho ih
 | nil=>exact .nil
 | emp hm=>exact .emp hm
 | a_ hl hc hm hz ho jF hw _ ih=>exact .a_ hl hc hm hz ho (fun i e j d h1 h2=>hS.mem _ _ (jF i e j d h1 h2)) hw ih
 | ptr ho jF hw _ ih=>exact .ptr ho (fun j d h1=>hS.mem _ _ (jF j d h1)) hw ih
 | aM hl _ ih=>exact .aM hl ih
 | fq _ ih=>exact .fq ih
 | fn hl hl' _ _ ih J3=>exact .fn hl hl' ih J3
 | cO=>exact .cO
 | mp h=>rw[←hS.loc _];exact .mp (by rw[←hS.n];exact h)
 | loc h=>rw[←hS.loc _];exact .loc (by rw[←hS.n];exact h)
 | sl h hl hc h0=>rw[←hS.loc _];exact .sl (by rw[←hS.n];exact h) hl hc fun e=>(h0 e).trans (hS.cap _).symm
 | yl h _ ih=>exact .yl (hh _ _ h) ih
 | uc h hr _ ih=>rw[←hS.loc _];exact .uc (by rw[←hS.n];exact h) ((hS.jt _).trans hr) ih

def D.live:D→Bool
 | .bh _ _ _ | .fm _ | .itb _ _ _ | .mO _ | .BV _ _ | .nL _ _ _=>true
 | _=>false

def qm (S:Sets)(i:Nat)(ob:Option Obj):D→Prop
 | .itb m n seen=>m<S.n∧ob=some (.mapIter (some (S.loc m)) n seen.toArray n)
 | .mO stop=>ob=some (.loop (bif stop then { (S.jt i).1 with state:=.done,pending:=some (S.jt i).2 } else(S.jt i).1))
 | .BV s pos=>ob=some (.stringIter s pos)
 | .nL g t vs=>S.loc i=g∧ob=some (.cells vs.toArray t (0,0))∧vs.all plain=true
 | _=>False

def D.isIt:D→Bool
 | .itb _ _ _ | .mO _ | .BV _ _ | .nL _ _ _=>true
 | _=>false

theorem qm.to {S S':Sets}{i:Nat}{ob:Option Obj}{z:D}(h:qm S i ob z)(hn:S.n≤S'.n)(hl:∀i,i<S.n→S'.loc i=S.loc i)(hr:S'.jt i=S.jt i)(hi:i<S.n):qm S' i ob z:=by
 cases z <;> first | exact h | skip
 ·exact⟨A0s h.1 hn,by rw[hl _ h.1];exact h.2⟩
 ·simp only[qm,hr];exact h
 ·exact⟨(hl _ hi).trans h.1,h.2⟩

theorem D.ff {z:D}(h:z.isIt=true):z.live=true:=by cases z <;> first | rfl | cases h

theorem aZ.one {w:World}{S:Sets}{v:Value}{d:D}(h:aZ w S v d)(hd:d.one=true):v.oneCell'=true:=by
 cases h <;> first | exact JI (by assumption) | rfl | simp[D.one] at hd

theorem aZ.QS {w:World}{S:Sets}{v x:Value}(h:aZ w S v (.v x)):v=x∧plain x=true:=by
 cases h;exact⟨rfl,by assumption⟩

theorem aZ.iT {w:World}{S:Sets}{v:Value}{ds:List D}(h:aZ w S v (.agg ds)):∃vs:Array Value,v=.agg vs∧vs.size=ds.length∧(∀(i:Nat) (d:D),ds[i]? = some d→d.one=true) ∧
  ∀(i:Nat) (v:Value) (d:D),vs[i]? = some v→ds[i]? = some d→aZ w S v d:=by
 cases h;exact⟨_,rfl,by assumption,by assumption,by assumption⟩

theorem aZ.wE {w:World}{S:Sets}{v:Value}{ds:List D}(h:aZ w S v (.aM ds)):∃vs:Array Value,v=.tuple vs∧vs.size=ds.length ∧
  ∀(i:Nat) (v:Value) (d:D),vs[i]? = some v→ds[i]? = some d→aZ w S v d:=by
 cases h;exact⟨_,rfl,by assumption,by assumption⟩

/-! ## Expressions -/

inductive Kd where
 | int | bool | str | ptr | agg (ks:List Nat) | mp
 deriving DecidableEq,Repr,Inhabited

inductive MOp where
 | JN | gu | get (kd:Kd) (agg:Bool) | NF (kd:Kd) | put (kd:Kd) | del (kd:Kd) | W0 | IY (neg:Bool) | BQ (t:TypeId) | td | same | rng | next | entry | Qm (kd:Kd) | YT (kd:Kd) | k7 | dH | iL (len size:Nat) | kg | mS | Jv | VN | O7 | H7 | TT (g len sz:Nat) | UE | iA | xm (e:TypeId) (n:Nat) | U7 | FP (e:TypeId) | Il (e:TypeId) | Om (n sz:Nat) | ru | ed (t:TypeId) | QV (neg:Bool) | Mf | Mg
 deriving DecidableEq,Repr,Inhabited

inductive E where
 | sym (k:Nat)
 | const (d:D)
 | bin (op:BinOp) (kd:Kd) (a b:E)
 | un (op:UnOp) (a:E)
 | conv (k:IntKind) (a:E)
 | bD (a:E)
 | fP (a:E)
 | aV (a:E)
 | cell (i:Nat) (a:E)
 | cells (i n:Nat) (a:E)
 | br (n:Nat) (a:E)
 | idx (a i:E)
 | qK (n:Nat) (a i:E)
 | nil
 | cons (a b:E)
 | one (a:E)
 | app (size bytes:Nat) (a b:E)
 | bP (a b:E)
 | dL (a:E)
 | dO (f:FuncId) (a b:E)
 | sub (size:Nat) (a lo hi:E)
 | set (a i:E) (off:Nat) (x:E)
 | ite (c a b:E)
 | guard (c:E) (want:Bool) (a:E)
 | ai
 | ah (a b:E)
 | au (i:Nat) (a:E)
 | rep (bytes:Nat) (n:E) (d:D)
 | deref (a:E)
 | fq (t:TypeId) (a:E)
 | mm (max:Bool) (a b:E)
 | aD (off:Nat) (a:E)
 | nn (a:E)
 | av (size:Nat) (a i:E)
 | ld (agg:Bool) (n:Nat) (h p:E)
 | eY (n:Nat) (h p y:E)
 | fK (e:TypeId) (sz:Nat) (h y:E)
 | aC (h:E)
 | dR (e:TypeId) (sz:Nat) (h l:E)
 | cY (h l:E)
 | fC (e:TypeId) (sz bytes:Nat) (h x y:E)
 | apps (h x y:E)
 | qL (agg:Bool) (h x:E)
 | qM (h x:E)
 | m4 (op:MOp) (a b c d:E)
 deriving Inhabited

def zP (op:BinOp)(a b:Int):Option Bool:=
 match op with
 | .eql=>some (a==b)
 | .neq=>some (a != b)
 | .lss=>some (a<b)
 | .leq=>some (a≤b)
 | .gtr=>some (a > b)
 | .geq=>some (a≥b)
 | _=>none

def Oo (op:BinOp)(k:IntKind)(a b:Int):Option Int:=
 match op with
 | .add=>some (k.wrap (a+b))
 | .sub=>some (k.wrap (a-b))
 | .mul=>some (k.wrap (a*b))
 | .quo=>if b=0 then none else some (k.wrap (a.tdiv b))
 | .rem=>if b=0 then none else some (a.tmod b)
 | .and=>some (k.wrap (BitVec.ofInt k.bits a &&& BitVec.ofInt k.bits b).toNat)
 | .or=>some (k.wrap (BitVec.ofInt k.bits a ||| BitVec.ofInt k.bits b).toNat)
 | .xor=>some (k.wrap (BitVec.ofInt k.bits a ^^^ BitVec.ofInt k.bits b).toNat)
 | .andNot=>some (k.wrap (BitVec.ofInt k.bits a &&& ~~~(BitVec.ofInt k.bits b)).toNat)
 | _=>none

def shI (op:BinOp)(k:IntKind)(a b:Int):Option Int:=
 if b<0 then none else
 match op with
 | .shl=>some (k.wrap (a*2 ^ (min b.toNat k.bits)))
 | .shr=>some (a.fdiv (2 ^ (min b.toNat k.bits)))
 | _=>none

def D.eqs:List Nat→List D→List D→Option Bool
 | [],[],[]=>some true
 | 0 :: ks,.v (.int k a) :: r,.v (.int k' b) :: s=>if k=k' then(D.eqs ks r s).map (a==b&&·) else none
 | 1 :: ks,.v (.bool a) :: r,.v (.bool b) :: s=>(D.eqs ks r s).map (a==b&&·)
 | 2 :: ks,.v (.string a) :: r,.v (.string b) :: s=>(D.eqs ks r s).map (a.toList==b.toList&&·)
 | _,_,_=>none

def D.bin (op:BinOp)(kd:Kd)(x y:D):Option D:=
 match kd,x,y with
 | .int,.v (.int k a),.v (.int k' b)=>
  match op with
  | .shl | .shr=>(shI op k a b).map fun n=>.v (.int k n)
  | _=>if k=k' then(match zP op a b with | some r=>some (.v (.bool r)) | none=>(Oo op k a b).map fun n=>.v (.int k n)) else none
 | .bool,.v (.bool a),.v (.bool b)=>(match op with | .eql=>some (.v (.bool (a==b))) | .neq=>some (.v (.bool (!(a==b)))) | _=>none)
 | .str,.v (.string a),.v (.string b)=>
  (match op with
   | .add=>if((a.size+b.size:Nat):Int) > IntKind.i64.max then none else some (.v (.string (a++b)))
   | .eql=>some (.v (.bool (a.toList==b.toList)))
   | .neq=>some (.v (.bool (!(a.toList==b.toList))))
   | .lss=>some (.v (.bool (Op.bytesLess a.toList b.toList)))
   | .leq=>some (.v (.bool (Op.bytesLess a.toList b.toList||a.toList==b.toList)))
   | .gtr=>some (.v (.bool (!(Op.bytesLess a.toList b.toList||a.toList==b.toList))))
   | .geq=>some (.v (.bool (!(Op.bytesLess a.toList b.toList))))
   | _=>none)
 | .ptr,.v (.pointer none),.v (.pointer none)=>(match op with | .eql=>some (.v (.bool true)) | .neq=>some (.v (.bool false)) | _=>none)
 | .ptr,.loc _ _,.v (.pointer none) | .ptr,.v (.pointer none),.loc _ _=>(match op with | .eql=>some (.v (.bool false)) | .neq=>some (.v (.bool true)) | _=>none)
 | .ptr,.ptr _,.v (.pointer none) | .ptr,.v (.pointer none),.ptr _=>(match op with | .eql=>some (.v (.bool false)) | .neq=>some (.v (.bool true)) | _=>none)
 | .mp,.mp _,.v (.map none)=>(match op with | .eql=>some (.v (.bool false)) | .neq=>some (.v (.bool true)) | _=>none)
 | .mp,.v (.map none),.v (.map none)=>(match op with | .eql=>some (.v (.bool true)) | .neq=>some (.v (.bool false)) | _=>none)
 | .agg ks,.agg xs,.agg ys=>(match op with | .eql=>(D.eqs ks xs ys).map fun b=>.v (.bool b) | .neq=>(D.eqs ks xs ys).map fun b=>.v (.bool (!b)) | _=>none)
 | _,_,_=>none

def D.un (op:UnOp)(x:D):Option D:=
 match op,x with
 | .not,.v (.bool b)=>some (.v (.bool (!b)))
 | .neg,.v (.int k n)=>some (.v (.int k (k.wrap (0-n))))
 | _,_=>none

def D.conv (k:IntKind)(x:D):Option D:=
 match x with
 | .v (.int _ n)=>some (.v (.int k (k.wrap n)))
 | _=>none

def D.bD (x:D):Option D:=
 match x with
 | .a_ es=>some (.v (.int .i64 es.length))
 | .sl _ _ n=>some (.v (.int .i64 n))
 | .cO=>some (.v (.int .i64 0))
 | _=>none

def D.fP (x:D):Option D:=
 match x with
 | .v (.string s)=>some (.v (.int .i64 s.size))
 | _=>none

def D.aV (x:D):Option D:=if x.one=true then some x else none

def D.cell (i:Nat)(x:D):Option D:=x.cells[i]?

def D.part (i n:Nat)(x:D):Option D:=
 match x with
 | .agg cs=>if i+n≤cs.length then some (.agg ((cs.drop i).take n)) else none
 | _=>none

def D.br (n:Nat)(x:D):Option D:=
 match x with
 | .agg cs=>if cs.length=n then some x else none
 | _=>none

def D.idx (x i:D):Option D:=
 match x,i with
 | .a_ es,.v (.int _ n)=>if 0≤n then es[n.toNat]? else none
 | _,_=>none

def D.qK (n:Nat)(x i:D):Option D:=(D.idx x i).bind fun e=>if e.cells.length=n then some e else none

def D.cons (x y:D):Option D:=
 match x,y with
 | .aM _,_=>none
 | x,.agg cs=>some (.agg (x.cells++cs))
 | _,_=>none

def bM (size:Nat)(xs:List D):Bool:=xs.all fun e=>e.cells.length==size

theorem lp {size:Nat}{xs:List D}(h:bM size xs=true){i:Nat}{e:D}(he:xs[i]? = some e):e.cells.length=size:=by
 have:=A0z.1 h e (B0i he)
 simpa using this

def D.app (size bytes:Nat)(x y:D):Option D:=
 match x,y with
 | .a_ xs,.a_ ys=>if(xs.length+ys.length)*bytes≤140737488355328∧xs.length+ys.length≤maxLen∧bM size xs=true∧bM size ys=true then some (.a_ (xs++ys)) else none
 | _,_=>none

def D.bP (x y:D):Option D:=
 match y with
 | .a_ ys=>some (.a_ (x :: ys))
 | _=>none

def D.dL (x:D):Option D:=
 match x with
 | .agg cs=>some (.ptr cs)
 | _=>none

def D.dO (f:FuncId)(x y:D):Option D:=
 match x,y with
 | .aM ds,.aM es=>some (.fn f ds es)
 | _,_=>none

def D.sub (size:Nat)(x lo hi:D):Option D:=
 match x,lo,hi with
 | .a_ es,.v (.int _ l),.v (.int _ h)=>if 0≤l∧l≤h∧h≤(es.length:Int)∧bM size es=true then some (.a_ ((es.drop l.toNat).take (h-l).toNat)) else none
 | .sl i off len,.v (.int _ l),.v (.int _ h)=>if 0≤l∧l≤h∧h≤(len:Int)∧0<size then(if l<h∨l=0 then some (.sl i (off+l.toNat*size) (h-l).toNat) else some (.a_ [])) else none
 | .cO,.v (.int _ l),.v (.int _ h)=>if l=0∧h=0 then some .cO else none
 | _,_,_=>none

def D.putAt (e:D)(off:Nat)(x:D):Option D:=
 match e with
 | .agg cs=>if off+x.cells.length≤cs.length then some (.agg (cs.take off++x.cells++cs.drop (off+x.cells.length))) else none
 | _=>if off=0∧x.one=true then some x else none

def D.set (a i:D)(off:Nat)(x:D):Option D:=
 match a,i with
 | .a_ es,.v (.int _ n)=>if 0≤n then(es[n.toNat]?).bind fun e=>(e.putAt off x).map fun e'=>.a_ (es.set n.toNat e') else none
 | _,_=>none

def D.ah (x y:D):Option D:=
 match y with
 | .aM ds=>some (.aM (x :: ds))
 | _=>none

def D.au (i:Nat)(x:D):Option D:=
 match x with
 | .aM ds=>ds[i]?
 | _=>none

def D.rep (bytes:Nat)(n:D)(d:D):Option D:=
 match n with
 | .v (.int .i64 k)=>if 0≤k∧k.toNat*bytes≤140737488355328∧k.toNat≤maxLen then some (.a_ (List.replicate k.toNat d)) else none
 | _=>none

def D.deref (x:D):Option D:=
 match x with
 | .ptr cs=>some (.agg cs)
 | _=>none

def D.aD (off:Nat)(x:D):Option D:=
 match x with
 | .ptr cs=>some (.ptr (cs.drop off))
 | .loc i o=>some (.loc i (o+off))
 | _=>none

def D.nn (x:D):Option D:=
 match x with
 | .ptr cs=>some (.ptr cs)
 | .loc i o=>some (.loc i o)
 | .fn f ds es=>some (.fn f ds es)
 | _=>none

def D.av (size:Nat)(x i:D):Option D:=
 match x,i with
 | .a_ es,.v (.int _ n)=>if 0≤n then(es[n.toNat]?).bind fun e=>if e.cells.length=size then some (.ptr e.cells) else none else none
 | .sl j off len,.v (.int _ n)=>if 0≤n∧n<(len:Int) then some (.loc j (off+n.toNat*size)) else none
 | _,_=>none

def D.iL (len size:Nat)(x i:D):Option D:=
 match i with
 | .v (.int _ n)=>if 0≤n∧n<(len:Int) then D.aD (n.toNat*size) x else none
 | _=>none

def D.dJ (h:D)(i:Nat):Option (TypeId×Nat×List D):=
 match h with
 | .st bs=>match bs[i]? with
  | some (.bh e sz cs)=>some (e,sz,cs)
  | _=>none
 | _=>none

def D.RE (h:D)(i:Nat):Option (List D):=
 match h with
 | .st bs=>match bs[i]? with
  | some (.nL _ _ vs)=>some (vs.map D.v)
  | _=>none
 | _=>none

def D.vm (h:D)(i:Nat):Option (List D):=
 match D.dJ h i with
 | some b=>some b.2.2
 | none=>D.RE h i

def D.ld (agg:Bool)(n:Nat)(h p:D):Option D:=
 match p with
 | .ptr cs=>if agg then(if n≤cs.length then some (.agg (cs.take n)) else none) else cs[0]?
 | .loc i off=>(D.vm h i).bind fun cs=>if agg then(if off+n≤cs.length then some (.agg ((cs.drop off).take n)) else none) else cs[off]?
 | _=>none

def D.eY (n:Nat)(h p y:D):Option D:=
 match p,h with
 | .loc i off,.st bs=>(D.dJ h i).bind fun b=>if y.cells.length=n∧off+n≤b.2.2.length∧y.cells.all (·.one)=true then some (.st (bs.set i (.bh b.1 b.2.1 (b.2.2.take off++y.cells++b.2.2.drop (off+n))))) else none
 | _,_=>none

def D.fK (e:TypeId)(sz:Nat)(h y:D):Option D:=
 match h,y with
 | .st bs,.agg cs=>if cs.all (·.one)=true then some (.st (bs++[.bh e sz cs])) else none
 | _,_=>none

def D.aC (h:D):Option D:=
 match h with
 | .st bs=>some (.loc bs.length 0)
 | _=>none

def bI (es:List D):List D:=es.flatMap D.cells

def D.dR (e:TypeId)(sz:Nat)(h l:D):Option D:=
 match h,l with
 | .st bs,.a_ es=>if bM sz es=true∧(bI es).all (·.one)=true then some (.st (bs++[.bh e sz (bI es)])) else none
 | _,_=>none

def D.cY (h l:D):Option D:=
 match h,l with
 | .st bs,.a_ es=>some (.sl bs.length 0 es.length)
 | _,_=>none

def chunks (sz:Nat):Nat→List D→List (List D)
 | 0,_=>[]
 | n+1,cs=>cs.take sz :: chunks sz n (cs.drop sz)

def D.Dj (h:D)(sz:Nat)(y:D):Option (List D):=
 match y with
 | .a_ ys=>some ys
 | .cO=>some []
 | .sl j off m=>if m=0 then some [] else(D.dJ h j).bind fun b=>if off+m*sz≤b.2.2.length then some ((chunks sz m (b.2.2.drop off)).map .agg) else none
 | _=>none

def D.cnt:D→Option Nat
 | .a_ ys=>some ys.length
 | .cO=>some 0
 | .sl _ _ m=>some m
 | _=>none

def D.fC (e:TypeId)(sz bytes:Nat)(h x y:D):Option D:=
 match h,x,D.Dj h sz y with
 | .st bs,.cO,some ys=>if ys=[] then some (.st bs) else
   if ys.length*bytes≤140737488355328∧ys.length≤maxLen∧bM sz ys=true∧(bI ys).all (·.one)=true then some (.st (bs++[.bh e sz (bI ys)])) else none
 | .st bs,.sl i off n,some ys=>if ys=[] then some (.st bs) else
   (D.dJ (.st bs) i).bind fun b=>if off=0∧b.1=e∧b.2.1=sz∧b.2.2.length=n*sz∧(n+ys.length)*bytes≤140737488355328∧n+ys.length≤maxLen∧bM sz ys=true∧(bI ys).all (·.one)=true then
    some (.st (bs.set i (.aM [])++[.bh e sz (b.2.2++bI ys)])) else
   if off=0∧b.1=e∧b.2.1=sz∧n*sz≤b.2.2.length∧(n+ys.length)*bytes≤140737488355328∧n+ys.length≤maxLen∧bM sz ys=true∧(bI ys).all (·.one)=true then
    some (.st (bs.set i (.aM [])++[.bh e sz (b.2.2.take (n*sz)++bI ys)])) else none
 | _,_,_=>none

def D.apps (h x y:D):Option D:=
 match h,x,D.cnt y with
 | .st bs,.cO,some m=>if m=0 then some .cO else some (.sl bs.length 0 m)
 | .st bs,.sl i off n,some m=>if m=0 then some (.sl i off n) else some (.sl bs.length 0 (n+m))
 | _,_,_=>none

def Pp (agg:Bool)(c:List D):D:=
 match agg,c with
 | false,[d]=>d
 | _,c=>.agg c

def D.qL (agg:Bool)(h x:D):Option D:=
 match h,x with
 | _,.cO=>some (.a_ [])
 | .st bs,.sl i off n=>(D.dJ (.st bs) i).bind fun b=>if off=0∧b.2.2.length=n*b.2.1∧0<b.2.1∧(agg=true∨b.2.1=1)∧b.2.2.all (·.one)=true then some (.a_ ((chunks b.2.1 n b.2.2).map (Pp agg))) else none
 | _,.sl _ _ _=>none
 | _,x=>some x

def D.qM (h x:D):Option D:=
 match h,x with
 | .st bs,.sl i _ _=>some (.st (bs.set i (.aM [])))
 | h,_=>some h

def D.mm (max:Bool)(x y:D):Option D:=
 match x,y with
 | .v (.int k a),.v (.int k' b)=>if k=k' then some (.v (.int k (if max then(if b > a then b else a) else(if b<a then b else a)))) else none
 | _,_=>none

def D.yP (kd:Kd)(x y:D):Option Bool:=
 match D.bin .eql kd x y with
 | some (.v (.bool b))=>some b
 | _=>none

def D.Bg (kd:Kd)(k:D):List D→Nat→Option (Option (Nat×D))
 | [],_=>some none
 | .aM [k',u] :: r,i=>match D.yP kd k k' with
  | some true=>some (some (i,u))
  | some false=>D.Bg kd k r (i+1)
  | none=>none
 | _ :: _,_=>none

def D.IP (kd:Kd)(k:D):Bool:=
 match kd,k with
 | .agg ks,.agg cs=>cs.length==ks.length
 | .agg _,_=>false
 | _,_=>true

def D.m5 (kd:Kd)(k:D)(bH:List D):Option (Option (Nat×D)):=if D.IP kd k=true then D.Bg kd k bH 0 else none

def D.lost:List D→Bool
 | .aM [] :: _=>true
 | _=>false
def D.kept:List D→List D
 | .aM [] :: r=>r
 | l=>l

theorem D.rI {kd:Kd}{k:D}{l:List D}{r:Option (Nat×D)}(h:D.m5 kd k l=some r):D.lost l=false:=by
 unfold D.m5 at h
 split at h
 ·unfold D.lost
  split
  ·simp[D.Bg] at h
  ·rfl
 ·cases h

theorem D.oF {l:List D}(h:D.lost l=false):D.kept l=l:=by
 unfold D.lost at h
 unfold D.kept
 split
 ·cases h
 ·rfl

def D.entries (h m:D):Option (List D):=
 match m with
 | .v (.map none)=>some []
 | .mp i=>(match h with
  | .st bs=>(match bs[i]? with
   | some (.fm bH)=>some (D.kept bH)
   | _=>none)
  | _=>none)
 | _=>none

def D.Ma (kd:Kd)(h m k u:D):Option D:=
 match m,h with
 | .mp i,.st bs=>(match bs[i]? with
  | some (.fm bH)=>(D.m5 kd k bH).map fun r=>match r with
   | none=>.st (bs.set i (.fm (bH++[.aM [k,u]])))
   | some (j,_)=>.st (bs.set i (.fm (bH.set j (.aM [k,u]))))
  | _=>none)
 | _,_=>none

def D.SG (kd:Kd)(h m k:D):Option D:=
 match m,h with
 | .mp i,.st bs=>(match bs[i]? with
  | some (.fm bH)=>(D.m5 kd k (D.kept bH)).map fun r=>match r with
   | none=>.st (bs.set i (.fm bH))
   | some (j,_)=>.st (bs.set i (.fm (.aM [] :: (D.kept bH).eraseIdx j)))
  | _=>none)
 | _,_=>none

mutual
def D.fO:D→Bool
 | .v _ | .cO=>true
 | .agg cs | .a_ cs | .ptr cs | .aM cs=>dH cs
 | .fq _ d=>d.fO
 | .fn _ a b=>dH a&&dH b
 | .loc _ _ | .sl _ _ _ | .bh _ _ _ | .mp _ | .fm _ | .itb _ _ _ | .st _ | .yl _ _ _ _ | .mO _ | .BV _ _ | .nL _ _ _ | .uc _ _ _ _=>false
def dH:List D→Bool
 | []=>true
 | d :: r=>d.fO&&dH r
end

theorem fc:∀{ds:List D} {i:Nat} {d:D},dH ds=true→ds[i]? = some d→d.fO=true
 | [],_,_,_,h=>by simp at h
 | x :: r,0,d,h,hi=>by simp[dH] at h hi;exact hi ▸ h.1
 | x :: r,i+1,d,h,hi=>by simp[dH] at h hi;exact fc h.2 hi

theorem Gq {d c:D}{j:Nat}(h:d.fO=true)(hc:d.cells[j]? = some c):c.fO=true:=by
 cases d <;> first
 |(simp only[D.cells] at hc;simp only[D.fO] at h;exact fc h hc)
 |(cases j with
    | zero=>simp only[D.cells,B0d,A0u] at hc;subst hc;exact h
    | succ j=>simp[D.cells] at hc)

theorem aZ.free {w:World}{S S':Sets}{v:Value}{d:D}(h:aZ w S v d)(hS:∀b o,S b o→S' b o)(hd:d.fO=true):aZ w S' v d:=by
 induction h with
 | v h=>exact .v h
 | agg hl ho _ ih=>exact .agg hl ho fun i v d h1 h2=>ih i v d h1 h2 (fc (by simpa[D.fO] using hd) h2)
 | nil=>exact .nil
 | emp hm=>exact .emp hm
 | a_ hl hc hm hz ho jF hw _ ih=>exact .a_ hl hc hm hz ho (fun i e j d h1 h2=>hS _ _ (jF i e j d h1 h2)) hw fun i e j d h1 h2=>ih i e j d h1 h2 (Gq (fc (by simpa[D.fO] using hd) h1) h2)
 | ptr ho jF hw _ ih=>exact .ptr ho (fun j d h1=>hS _ _ (jF j d h1)) hw fun j d h1=>ih j d h1 (fc (by simpa[D.fO] using hd) h1)
 | aM hl _ ih=>exact .aM hl fun i v d h1 h2=>ih i v d h1 h2 (fc (by simpa[D.fO] using hd) h2)
 | fq _ ih=>exact .fq (ih (by simpa[D.fO] using hd))
 | fn hl hl' _ _ ih J3=>
  simp only[D.fO,A0g] at hd
  exact .fn hl hl' (fun i v d h1 h2=>ih i v d h1 h2 (fc hd.1 h2)) fun i v d h1 h2=>J3 i v d h1 h2 (fc hd.2 h2)
 | cO=>exact .cO
 | mp _ | loc _ | sl _ _ _ _ | yl _ _ _ | uc _ _ _ _=>simp[D.fO] at hd

theorem aZ.x8 {w:World}{S S':Sets}{v:Value}{d:D}(h:aZ w S v d)(hS:∀b o,S b o→S' b o)(hn:S.n=0)(hh:∀l,S.hold l=none):aZ w S' v d:=by
 induction h with
 | v h=>exact .v h
 | agg hl ho _ ih=>exact .agg hl ho ih
 | nil=>exact .nil
 | emp hm=>exact .emp hm
 | a_ hl hc hm hz ho jF hw _ ih=>exact .a_ hl hc hm hz ho (fun i e j d h1 h2=>hS _ _ (jF i e j d h1 h2)) hw ih
 | ptr ho jF hw _ ih=>exact .ptr ho (fun j d h1=>hS _ _ (jF j d h1)) hw ih
 | aM hl _ ih=>exact .aM hl ih
 | fq _ ih=>exact .fq ih
 | fn hl hl' _ _ ih J3=>exact .fn hl hl' ih J3
 | cO=>exact .cO
 | mp h=>omega
 | loc h=>omega
 | sl h _ _ _=>omega
 | yl h _ _=>rw[hh] at h;cases h
 | uc h _ _ _=>omega

def uD (bH:List D)(j:Nat):Option (D×D):=
 match bH[j]? with
 | some (.aM [k,u])=>some (k,u)
 | _=>none

def D.IJ (kd:Kd)(h m k z:D):Option D:=
 (D.entries h m).bind fun bH=>(D.m5 kd k bH).map fun r=>match r with
  | none=>.aM [z,.int bH.length]
  | some (j,u)=>.aM [u,.int j]

def D.Me (kd:Kd)(h m k z:D):Option D:=
 match m,h with
 | .mp i,.st bs=>(match bs[i]? with
  | some (.fm bH)=>(D.m5 kd k bH).map fun r=>match r with
   | none=>.st (bs.set i (.fm (bH++[.aM [k,z]])))
   | some (j,u)=>.st (bs.set i (.fm (bH.set j (.aM [k,u]))))
  | _=>none)
 | _,_=>none

def D.Md (h m s x:D):Option D:=
 match m,h,s with
 | .mp i,.st bs,.v (.int .i64 n)=>(match bs[i]? with
  | some (.fm bH)=>if 0≤n∧D.lost bH=false then(uD bH n.toNat).map fun e=>.st (bs.set i (.fm (bH.set n.toNat (.aM [e.1,x])))) else none
  | _=>none)
 | _,_,_=>none

def D.SD (h m:D):Option D:=
 match m,h with
 | .mp i,.st bs=>(match bs[i]? with
  | some (.fm bH)=>if D.lost bH=true then none else some (.st (bs++[.itb i bH.length []]))
  | _=>none)
 | _,_=>none

def D.place (h p:D):Option (List D×Nat×Nat×Nat×List Nat×List D):=
 match h,p with
 | .st bs,.loc i 0=>(match bs[i]? with
  | some (.itb m n seen)=>(match bs[m]? with
   | some (.fm bH)=>if bH.length=n∧D.lost bH=false then some (bs,i,m,n,seen,bH) else none
   | _=>none)
  | _=>none)
 | _,_=>none

def yI (n:Nat)(seen:List Nat):List Nat:=(List.range n).filter fun j=>!seen.contains j

def D.Mc (h p:D):Option D:=
 (D.place h p).map fun q=>.a_ (if(yI q.2.2.2.1 q.2.2.2.2.1).isEmpty=true then[.aM [.aM [.bool false],.st q.1]]
  else(yI q.2.2.2.1 q.2.2.2.2.1).filterMap fun j=>(uD q.2.2.2.2.2 j).map fun e=>.aM [.aM [.bool true,e.1,e.2],.st (q.1.set q.2.1 (.itb q.2.2.1 q.2.2.2.1 (q.2.2.2.2.1++[j])))])

def D.Gt (h p:D):Option D:=
 (D.place h p).bind fun q=>q.2.2.2.2.1.getLast?.bind fun j=>(uD q.2.2.2.2.2 j).map fun e=>.aM [e.1,e.2]

def Value.same:Value→Value→Bool
 | .bool a,.bool b=>a==b
 | .int k a,.int k' b=>decide (k=k')&&decide (a=b)
 | .string a,.string b=>decide (a.data=b.data)
 | .pointer none,.pointer none=>true
 | .map none,.map none=>true
 | .nilFunc,.nilFunc=>true
 | .nilIface,.nilIface=>true
 | _,_=>false

theorem Value.b_ {a b : Value} (h : Value.same a b = true) : a = b := by
  unfold Value.same at h
  split at h <;> first
    | rfl
    | (simp only [beq_iff_eq] at h; rw [h])
    | (simp only [A0g, decide_eq_true_eq] at h; rw [h.1, h.2])
    | (rename_i x y; simp only [decide_eq_true_eq] at h; cases x; cases y; simp only at h; rw [h])
    | cases h

def Value.eJ:List Value→List Value→Bool
 | [],[]=>true
 | a :: r,b :: s=>Value.same a b&&Value.eJ r s
 | _,_=>false

theorem Value.cF:∀{a b:List Value},Value.eJ a b=true→a=b
 | [],[],_=>rfl
 | a :: r,b :: s,h=>by
  simp only[Value.eJ,A0g] at h
  rw[Value.b_ h.1,Value.cF h.2]
 | [],_ :: _,h | _ :: _,[],h=>by simp[Value.eJ] at h

mutual
def D.same:D→D→Bool
 | .v a,.v b=>Value.same a b
 | .agg a,.agg b=>D.eJ a b
 | .a_ a,.a_ b=>D.eJ a b
 | .aM a,.aM b=>D.eJ a b
 | .ptr a,.ptr b=>D.eJ a b
 | .cO,.cO=>true
 | .loc i o,.loc i' o'=>decide (i=i')&&decide (o=o')
 | .sl i o n,.sl i' o' n'=>decide (i=i')&&decide (o=o')&&decide (n=n')
 | .mp i,.mp i'=>decide (i=i')
 | .fq t a,.fq t' b=>decide (t=t')&&D.same a b
 | .fn f a b,.fn g c d=>decide (f=g)&&D.eJ a c&&D.eJ b d
 | .bh e s a,.bh e' s' b=>decide (e=e')&&decide (s=s')&&D.eJ a b
 | .fm a,.fm b=>D.eJ a b
 | .itb m n s,.itb m' n' s'=>decide (m=m')&&decide (n=n')&&decide (s=s')
 | .mO b,.mO c=>b==c
 | .BV s n,.BV s' n'=>decide (s=s')&&decide (n=n')
 | .nL g t a,.nL g' t' b=>decide (g=g')&&decide (t=t')&&Value.eJ a b
 | .st a,.st b=>D.eJ a b
 | _,_=>false
def D.eJ:List D→List D→Bool
 | [],[]=>true
 | a :: r,b :: s=>a.same b&&D.eJ r s
 | _,_=>false
end

mutual
theorem D.b_:∀{a b:D},D.same a b=true→a=b
 | .v a,b,h=>by cases b <;> first | exact congrArg D.v (Value.b_ (by simpa[D.same] using h)) | simp[D.same] at h
 | .agg a,b,h=>by cases b <;> first | exact congrArg D.agg (D.cF (by simpa[D.same] using h)) | simp[D.same] at h
 | .a_ a,b,h=>by cases b <;> first | exact congrArg D.a_ (D.cF (by simpa[D.same] using h)) | simp[D.same] at h
 | .aM a,b,h=>by cases b <;> first | exact congrArg D.aM (D.cF (by simpa[D.same] using h)) | simp[D.same] at h
 | .ptr a,b,h=>by cases b <;> first | exact congrArg D.ptr (D.cF (by simpa[D.same] using h)) | simp[D.same] at h
 | .cO,b,h=>by cases b <;> first | rfl | simp[D.same] at h
 | .loc _ _,b,h=>by cases b <;> first | (simp only[D.same,A0g,decide_eq_true_eq] at h;rw[h.1,h.2]) | simp[D.same] at h
 | .sl _ _ _,b,h=>by cases b <;> first | (simp only[D.same,A0g,decide_eq_true_eq] at h;rw[h.1.1,h.1.2,h.2]) | simp[D.same] at h
 | .mp _,b,h=>by cases b <;> first | (simp only[D.same,decide_eq_true_eq] at h;rw[h]) | simp[D.same] at h
 | .fq t a,b,h=>by cases b <;> first | (simp only[D.same,A0g,decide_eq_true_eq] at h;rw[h.1,D.b_ h.2]) | simp[D.same] at h
 | .fn f a b,c,h=>by
  cases c <;> first | (simp only[D.same,A0g,decide_eq_true_eq] at h;rw[h.1.1,D.cF h.1.2,D.cF h.2]) | simp[D.same] at h
 | .bh _ _ _,b,h=>by cases b <;> first | (simp only[D.same,A0g,decide_eq_true_eq] at h;rw[h.1.1,h.1.2,D.cF h.2]) | simp[D.same] at h
 | .fm a,b,h=>by cases b <;> first | exact congrArg D.fm (D.cF (by simpa[D.same] using h)) | simp[D.same] at h
 | .st a,b,h=>by cases b <;> first | exact congrArg D.st (D.cF (by simpa[D.same] using h)) | simp[D.same] at h
 | .itb _ _ _,b,h=>by cases b <;> first | (simp only[D.same,A0g,decide_eq_true_eq] at h;rw[h.1.1,h.1.2,h.2]) | simp[D.same] at h
 | .mO _,b,h=>by cases b <;> first | (simp only[D.same,beq_iff_eq] at h;rw[h]) | simp[D.same] at h
 | .BV _ _,b,h=>by cases b <;> first | (simp only[D.same,A0g,decide_eq_true_eq] at h;rw[h.1,h.2]) | simp[D.same] at h
 | .nL _ _ _,b,h=>by cases b <;> first | (simp only[D.same,A0g,decide_eq_true_eq] at h;rw[h.1.1,h.1.2,Value.cF h.2]) | simp[D.same] at h
 | .yl _ _ _ _,_,h | .uc _ _ _ _,_,h=>by simp[D.same] at h
theorem D.cF:∀{a b:List D},D.eJ a b=true→a=b
 | [],[],_=>rfl
 | a :: r,b :: s,h=>by
  simp only[D.eJ,A0g] at h
  rw[D.b_ h.1,D.cF h.2]
 | [],_ :: _,h | _ :: _,[],h=>by simp[D.eJ] at h
end

def D.kg (x i:D):Option D:=
 match x,i with
 | .v (.string s),.v (.int _ n)=>if 0≤n then(s[n.toNat]?).map fun b=>.v (.int .u8 b.toNat) else none
 | _,_=>none

def D.mS (x l h:D):Option D:=
 match x,l,h with
 | .v (.string s),.v (.int _ a),.v (.int _ b)=>if 0≤a∧a≤b∧b≤s.size then some (.v (.string (s.extract a.toNat b.toNat))) else none
 | _,_,_=>none

def bytesOf:List D→Option (List Int)
 | []=>some []
 | e :: r=>match e.cells with
  | [.v (.int .u8 n)]=>(bytesOf r).map (n :: ·)
  | _=>none

def D.H7 (x:D):Option D:=
 match x with
 | .a_ es=>(bytesOf es).map fun ns=>.v (.string (strOfNums ns))
 | _=>none

def D.Jv (h s:D):Option D:=
 match h,s with
 | .st bs,.v (.string s)=>some (.st (bs++[.BV s 0]))
 | _,_=>none

def D.F6 (h p:D):Option (List D×Nat×ByteArray×Nat):=
 match h,p with
 | .st bs,.loc i 0=>(match bs[i]? with
  | some (.BV s n)=>some (bs,i,s,n)
  | _=>none)
 | _,_=>none

def D.VN (h p:D):Option D:=(D.F6 h p).map fun q=>.st (if q.2.2.2<q.2.2.1.size then q.1.set q.2.1 (.BV q.2.2.1 (q.2.2.2+(Utf8.decode q.2.2.1 q.2.2.2).2)) else q.1)

def D.O7 (h p:D):Option D:=(D.F6 h p).map fun q=>if q.2.2.2<q.2.2.1.size then .aM [.bool true,.int q.2.2.2,.v (.int .i32 (Utf8.decode q.2.2.1 q.2.2.2).1)] else .aM [.bool false]

def oM (g:Nat):List D→Nat→Option Nat
 | [],_=>none
 | .nL g' _ _ :: r,j=>if g'=g then some j else oM g r (j+1)
 | _ :: r,j=>oM g r (j+1)

def D.TT (g len sz:Nat)(h i:D):Option D:=
 match h,i with
 | .st bs,.v (.int _ n)=>if 0≤n∧n<(len:Int) then(oM g bs 0).map fun j=>.loc j (n.toNat*sz) else none
 | _,_=>none

def D.UE (x c:D):Option D:=
 match x,c with
 | .v (.string s),.v (.int .u8 c)=>some (.int (firstIdx s c.toNat.toUInt8))
 | _,_=>none

def eG (s:ByteArray):List D:=s.data.toList.map fun b=>.v (.int .u8 b.toNat)

def D.iA (x:D):Option D:=
 match x with
 | .v (.string s)=>if s.size≤maxLen then some (.a_ (eG s)) else none
 | _=>none

def D.xm (e:TypeId)(n:Nat)(h p:D):Option D:=
 match p with
 | .v (.pointer none)=>some p
 | .loc i 0=>(D.dJ h i).bind fun b=>if b.1=e∧n≤b.2.2.length then some p else none
 | _=>none

def D.Mf (h x:D):Option D:=
 match h,x with
 | .st bs,.fq t (.mp i)=>(match bs[i]? with
  | some (.fm _)=>some (.fq t (.mp bs.length))
  | _=>none)
 | _,_=>none

def D.Mg (h x:D):Option D:=
 match h,x with
 | .st bs,.fq _ (.mp i)=>(match bs[i]? with
  | some (.fm bH)=>some (.st (bs++[.fm bH]))
  | _=>none)
 | _,_=>none

def D.U7 (x:D):Option D:=
 match x with
 | .cO=>some (.v (.pointer none))
 | .sl i off n=>if 0<n then some (.loc i off) else none
 | _=>none

def D.FP (e:TypeId)(h p n:D):Option D:=
 match p,n with
 | .v (.pointer none),.v (.int .i64 0)=>some (.v (.string .empty))
 | .loc i 0,.v (.int .i64 n)=>(D.dJ h i).bind fun b=>if 0<n∧n.toNat≤b.2.2.length∧b.1=e∧n.toNat≤maxLen then(bytesOf (b.2.2.take n.toNat)).bind fun ns=>if ns.all (fun x=>decide (0≤x)&&decide (x<256))=true then some (.v (.string (strOfNums ns))) else none else none
 | _,_=>none

def D.Il (e:TypeId)(h p n:D):Option D:=
 (D.FP e h p n).bind fun _=>match p with
 | .loc i 0=>(match h with | .st bs=>some (.st (bs.set i (.aM []))) | _=>none)
 | _=>some h

def D.Om (n sz:Nat)(p lo:D):Option D:=
 match p,lo with
 | .loc i off,.v (.int _ l)=>if 0≤l∧l<(n:Int)∧0<off+l.toNat*sz then some (.sl i (off+l.toNat*sz) (n-l.toNat)) else none
 | _,_=>none

def D.ru (h x:D):Option D:=
 match x with
 | .cO=>some (.v (.string .empty))
 | .sl i off n=>(D.dJ h i).bind fun b=>if off+n≤b.2.2.length∧0<n then(bytesOf ((b.2.2.drop off).take n)).map fun ns=>.v (.string (strOfNums ns)) else none
 | x=>D.H7 x

def D.QV (neg:Bool)(x y:D):Option D:=
 match x,y with
 | .loc i o,.loc j p=>if i=j∧o=p then some (.v (.bool (!neg))) else none
 | x,y=>D.bin (bif neg then .neq else .eql) .ptr x y

def D.ed (t:TypeId)(x:D):Option D:=
 match x with
 | .fq t' y=>if t'=t then some y else none
 | _=>none

def D.m4 (op:MOp)(a b c d:D):Option D:=
 match op with
 | .kg=>D.kg a b
 | .H7=>D.H7 a
 | .Jv=>D.Jv a b
 | .VN=>D.VN a b
 | .O7=>D.O7 a b
 | .mS=>D.mS a b c
 | .TT g len sz=>D.TT g len sz a b
 | .UE=>D.UE a b
 | .iA=>D.iA a
 | .xm e n=>D.xm e n a b
 | .U7=>D.U7 a
 | .Mf=>D.Mf a b
 | .Mg=>D.Mg a b
 | .FP e=>D.FP e a b c
 | .Il e=>D.Il e a b c
 | .Om n sz=>D.Om n sz a b
 | .ru=>D.ru a b
 | .ed t=>D.ed t a
 | .QV neg=>D.QV neg a b
 | .JN=>(match a with | .st bs=>some (.st (bs++[.fm []])) | _=>none)
 | .gu=>(match a with | .st bs=>some (.mp bs.length) | _=>none)
 | .get kd g=>(D.entries a b).bind fun bH=>(D.m5 kd c bH).bind fun r=>
   let x:=match r with | some (_,u)=>u | none=>d
   if g=true∨x.one=true then some x else none
 | .NF kd=>(D.entries a b).bind fun bH=>(D.m5 kd c bH).map fun r=>match r with | some (_,u)=>.aM [u,.bool true] | none=>.aM [d,.bool false]
 | .put kd=>D.Ma kd a b c d
 | .del kd=>D.SG kd a b c
 | .W0=>(D.entries a b).map fun bH=>.int bH.length
 | .IY neg=>(match a with | .fq _ _=>some (.bool neg) | .v .nilIface=>some (.bool (!neg)) | _=>none)
 | .BQ t=>(match a with | .fq t' x=>some (if t'=t then .aM [x,.bool true] else .aM [b,.bool false]) | .v .nilIface=>some (.aM [b,.bool false]) | _=>none)
 | .td=>(match a with | .fq t x=>some (.fq t x) | _=>none)
 | .same=>if D.same a b=true then some a else none
 | .rng=>D.SD a b
 | .next=>D.Mc a b
 | .entry=>D.Gt a b
 | .Qm kd=>D.IJ kd a b c d
 | .YT kd=>D.Me kd a b c d
 | .k7=>D.Md a b c d
 | .dH=>if a.fO=true then some a else none
 | .iL n k=>D.iL n k a b

abbrev D.undef:D:=.aM []

def E.eval (env:List D):E→Option D
 | .sym k=>env[k]?
 | .const d=>some d
 | .bin op kd a b=>(a.eval env).bind fun x=>(b.eval env).bind fun y=>D.bin op kd x y
 | .un op a=>(a.eval env).bind (D.un op)
 | .conv k a=>(a.eval env).bind (D.conv k)
 | .bD a=>(a.eval env).bind D.bD
 | .fP a=>(a.eval env).bind D.fP
 | .aV a=>(a.eval env).bind D.aV
 | .cell i a=>(a.eval env).bind (D.cell i)
 | .cells i n a=>(a.eval env).bind (D.part i n)
 | .br n a=>(a.eval env).bind (D.br n)
 | .idx a i=>(a.eval env).bind fun x=>(i.eval env).bind fun y=>D.idx x y
 | .qK n a i=>(a.eval env).bind fun x=>(i.eval env).bind fun y=>D.qK n x y
 | .nil=>some (.agg [])
 | .cons a b=>(a.eval env).bind fun x=>(b.eval env).bind fun y=>D.cons x y
 | .one a=>(a.eval env).map fun x=>.a_ [x]
 | .app n m a b=>(a.eval env).bind fun x=>(b.eval env).bind fun y=>D.app n m x y
 | .bP a b=>(a.eval env).bind fun x=>(b.eval env).bind fun y=>D.bP x y
 | .dL a=>(a.eval env).bind D.dL
 | .dO f a b=>(a.eval env).bind fun x=>(b.eval env).bind fun y=>D.dO f x y
 | .sub n a l h=>(a.eval env).bind fun x=>(l.eval env).bind fun y=>(h.eval env).bind fun z=>D.sub n x y z
 | .set a i off x=>(a.eval env).bind fun l=>(i.eval env).bind fun n=>(x.eval env).bind fun y=>D.set l n off y
 | .ite g a b=>match g.eval env with
  | some (.v (.bool true))=>a.eval env
  | some (.v (.bool false))=>b.eval env
  | _=>none
 | .guard g want a=>match g.eval env with
  | some (.v (.bool b))=>if b=want then a.eval env else some D.undef
  | _=>none
 | .ai=>some (.aM [])
 | .ah a b=>(a.eval env).bind fun x=>(b.eval env).bind fun y=>D.ah x y
 | .au i a=>(a.eval env).bind (D.au i)
 | .rep b n d=>(n.eval env).bind fun x=>D.rep b x d
 | .deref a=>(a.eval env).bind D.deref
 | .fq t a=>(a.eval env).map (.fq t)
 | .mm m a b=>(a.eval env).bind fun x=>(b.eval env).bind fun y=>D.mm m x y
 | .aD k a=>(a.eval env).bind (D.aD k)
 | .nn a=>(a.eval env).bind D.nn
 | .av n a b=>(a.eval env).bind fun x=>(b.eval env).bind fun y=>D.av n x y
 | .ld g n a b=>(a.eval env).bind fun x=>(b.eval env).bind fun y=>D.ld g n x y
 | .eY n a b c=>(a.eval env).bind fun x=>(b.eval env).bind fun y=>(c.eval env).bind fun z=>D.eY n x y z
 | .fK e n a b=>(a.eval env).bind fun x=>(b.eval env).bind fun y=>D.fK e n x y
 | .aC a=>(a.eval env).bind D.aC
 | .dR e n a b=>(a.eval env).bind fun x=>(b.eval env).bind fun y=>D.dR e n x y
 | .cY a b=>(a.eval env).bind fun x=>(b.eval env).bind fun y=>D.cY x y
 | .fC e n m a b c=>(a.eval env).bind fun x=>(b.eval env).bind fun y=>(c.eval env).bind fun z=>D.fC e n m x y z
 | .apps a b c=>(a.eval env).bind fun x=>(b.eval env).bind fun y=>(c.eval env).bind fun z=>D.apps x y z
 | .qL g a b=>(a.eval env).bind fun x=>(b.eval env).bind fun y=>D.qL g x y
 | .qM a b=>(a.eval env).bind fun x=>(b.eval env).bind fun y=>D.qM x y
 | .m4 op a b c d=>(a.eval env).bind fun x=>(b.eval env).bind fun y=>(c.eval env).bind fun z=>(d.eval env).bind fun u=>D.m4 op x y z u

theorem E.bN {env env' : List D} (h : env <+: env') : ∀ (x : E) {d : D}, x.eval env = some d → x.eval env' = some d := by
  obtain ⟨r, rfl⟩ := h
  intro x
  induction x <;> intro d hd <;> simp only [E.eval, A0c, A0b] at hd ⊢
  case sym k =>
    have hk : k < env.length := (A0a.1 hd).1
    rw [A0j hk]
    exact hd
  case ite c a b hc ha hb =>
    cases h : c.eval env with
    | none => simp [h] at hd
    | some y =>
      rw [hc h]
      rw [h] at hd
      split at hd <;> first | (rename_i e; cases e; exact ha hd) | (rename_i e; cases e; exact hb hd) | simp at hd
  case guard c want a hc ha =>
    cases h : c.eval env with
    | none => simp [h] at hd
    | some y =>
      rw [hc h]
      rw [h] at hd
      split at hd
      · rename_i e
        cases e
        split at hd
        · rename_i hb; rw [if_pos hb]; exact ha hd
        · rename_i hb; rw [if_neg hb]; exact hd
      · simp at hd
  all_goals first
    | exact hd
    | (rename_i ha; obtain ⟨x, h1, h2⟩ := hd; exact ⟨x, ha h1, h2⟩)
    | (rename_i ha hb; obtain ⟨x, h1, y, h2, h3⟩ := hd; exact ⟨x, ha h1, y, hb h2, h3⟩)
    | (rename_i ha hb hc; obtain ⟨x, h1, y, h2, z, h3, h4⟩ := hd; exact ⟨x, ha h1, y, hb h2, z, hc h3, h4⟩)
    | (rename_i ha hb hc he; obtain ⟨x, h1, y, h2, z, h3, u, h4, h5⟩ := hd; exact ⟨x, ha h1, y, hb h2, z, hc h3, u, he h4, h5⟩)
end

section
noncomputable section

inductive SV where
 | bS
 | e (x:E) (s:Bool)
 | agg (cs:List SV)
 | aM (vs:List SV)
 | addr (o off:Nat)
 | av (o:Nat) (i:E) (size off:Nat)
 | fT (x:E) (off:Nat)
 | own (x:E) (k:Nat)
 | kF (o:Nat)
 | func (fn:Fn) (cap:List SV)
 | cond (act:List (E×Bool)) (sv:SV)
 deriving Inhabited

structure bV where
 ro:Bool
 wr:List Nat
 xV:List Nat
 Uf:List Nat
 dI:List Nat
 NI:List (Nat×Nat)
 keep:List Nat:=[]
 aN:Bool:=false
 maps:List TypeId:=[]
 Px:List Nat:=[]
 cE:Bool:=false
 yU:List (Nat×Nat):=[]
 deriving Inhabited,DecidableEq

def aO:Nat:=1000000

inductive aE where
 | box (cs:List SV)
 | row (x:E) (size:Nat)
 | tok (elem:TypeId) (size:Nat)
 | store (cf:bV) (x:E)
 deriving Inhabited

def aE.ro:aE→Bool
 | .store cf _=>cf.ro
 | _=>false

structure af where
 tmps:List SV
 mem:List (Option aE)
 hs:Option aE
 deriving Inhabited

/-! lists by their recursors (the kernel is quicker so) -/

def Pb {α:Type}(x0:α)(l:List α):Nat→α:=List.rec (motive:=fun _=>Nat→α) (fun _=>x0) (fun x _ ih n=>Nat.rec (motive:=fun _=>α) x (fun m _=>ih m) n) l
def LP {α:Type}(x:α)(l:List α):Nat→List α:=List.rec (motive:=fun _=>Nat→List α) (fun _=>[]) (fun y r ih n=>Nat.rec (motive:=fun _=>List α) (x :: r) (fun m _=>y :: ih m) n) l
def JD {α β:Type}(f:α→β)(l:List α):List β:=List.rec (motive:=fun _=>List β) [] (fun x _ ih=>f x :: ih) l

theorem B0 {α:Type}(x0:α):∀(l:List α) (n:Nat),Pb x0 l n=l.getD n x0
 | [],_=>rfl
 | _ :: _,0=>rfl
 | _ :: r,n+1=>by
  show Pb x0 r n=_
  rw[B0 x0 r n]
  simp[List.getD]

theorem wF {α:Type}(x:α):∀(l:List α) (n:Nat),LP x l n=l.set n x
 | [],_=>rfl
 | _ :: _,0=>rfl
 | y :: r,n+1=>by
  show y :: LP x r n=y :: r.set n x
  rw[wF x r n]

theorem wH {α β:Type}(f:α→β):∀l:List α,JD f l=l.map f
 | []=>rfl
 | x :: r=>by
  show f x :: JD f r=f x :: r.map f
  rw[wH f r]

def af.tmp (σ:af)(t:Nat):SV:=Pb .bS σ.tmps t
def af.obj (σ:af)(o:Nat):Option aE:=if o=aO then σ.hs else Pb none σ.mem o
def af.put (σ:af)(dst:Option Tmp)(sv:SV):af:=match dst with | some d=>{ σ with tmps:=LP sv σ.tmps d } | none=>σ
def af.setObj (σ:af)(o:Nat)(x:Option aE):af:=if o=aO then { σ with hs:=x } else { σ with mem:=LP x σ.mem o }

theorem af.eH (σ:af)(t:Nat):σ.tmp t=σ.tmps.getD t .bS:=B0 _ _ _
theorem af.cK (σ:af)(o:Nat):σ.obj o=if o=aO then σ.hs else σ.mem.getD o none:=by unfold af.obj;rw[B0]
theorem af.ep (σ:af)(dst:Option Tmp)(sv:SV):σ.put dst sv=match dst with | some d=>{ σ with tmps:=σ.tmps.set d sv } | none=>σ:=by unfold af.put;cases dst <;> simp only[wF]
theorem af.d_ (σ:af)(o:Nat)(x:Option aE):σ.setObj o x=if o=aO then { σ with hs:=x } else { σ with mem:=σ.mem.set o x }:=by unfold af.setObj;rw[wF]

structure cr where
 bh:Nat→Nat
 val:Nat→Value
 S:Sets
 an:Nat→Prop

def aQ (env:List D)(act:List (E×Bool)):Prop:=∀p,p∈act→p.1.eval env=some (.bool p.2)

inductive cu (w:World) (ρ:cr) (env:List D):Value→SV→Prop
 | bS {v:Value}:cu w ρ env v .bS
 | e {v:Value} {x:E} {s:Bool} {d:D} (hx:x.eval env=some d) (h:aZ w ρ.S v d) (h1:s=true→d.one=true):cu w ρ env v (.e x s)
 | agg {vs:Array Value} {cs:List SV} (hl:vs.size=cs.length) (ho:∀(i:Nat) (v:Value),vs[i]? = some v→v.oneCell'=true)
   (h:∀(i:Nat) (v:Value) (c:SV),vs[i]? = some v→cs[i]? = some c→cu w ρ env v c):cu w ρ env (.agg vs) (.agg cs)
 | aM {vs:Array Value} {cs:List SV} (hl:vs.size=cs.length)
   (h:∀(i:Nat) (v:Value) (c:SV),vs[i]? = some v→cs[i]? = some c→cu w ρ env v c):cu w ρ env (.tuple vs) (.aM cs)
 | addr {o off:Nat}:cu w ρ env (.pointer (some ⟨ρ.bh o,off,none⟩)) (.addr o off)
 | av {o size off n:Nat} {x:E} {k:IntKind} (hx:x.eval env=some (.v (.int k n))):cu w ρ env (.pointer (some ⟨ρ.bh o,n*size+off,none⟩)) (.av o x size off)
 | fT {v:Value} {x:E} {off:Nat} {d:D} (hx:x.eval env=some d) (h:aZ w ρ.S v (.ptr (d.cells.drop off))):cu w ρ env v (.fT x off)
 | own {v:Value} {x:E} {k:Nat} {es:List D} (hx:x.eval env=some (.a_ es)) (h:aZ w ρ.S v (.a_ es)) (hv:v=ρ.val k):cu w ρ env v (.own x k)
 | kF {o:Nat}:cu w ρ env (ρ.val o) (.kF o)
 | func {fn:Fn} {vs:Array Value} {cs:List SV} (hl:vs.size=cs.length)
   (h:∀(i:Nat) (v:Value) (c:SV),vs[i]? = some v→cs[i]? = some c→cu w ρ env v c):cu w ρ env (.func fn #[] vs) (.func fn cs)
 | cond {v:Value} {act:List (E×Bool)} {sv:SV} (hd:∀p,p∈act→∃d,p.1.eval env=some d) (h:aQ env act→cu w ρ env v sv) (hn:¬aQ env act→v=undef):cu w ρ env v (.cond act sv)

section
variable {w:World} {ρ:cr} {env:List D} {v:Value}
theorem cu.gj {x:E}{s:Bool}(h:cu w ρ env v (.e x s)):∃d,x.eval env=some d∧aZ w ρ.S v d∧(s=true→d.one=true):=by
 generalize hs:SV.e x s=sv at h
 cases h <;> cases hs
 exact⟨_,by assumption,by assumption,by assumption⟩
theorem cu.iT {cs:List SV}(h:cu w ρ env v (.agg cs)):∃vs:Array Value,v=.agg vs∧vs.size=cs.length∧(∀(i:Nat) (v:Value),vs[i]? = some v→v.oneCell'=true)∧∀(i:Nat) (v:Value) (c:SV),vs[i]? = some v→cs[i]? = some c→cu w ρ env v c:=by
 generalize hs:SV.agg cs=sv at h
 cases h <;> cases hs
 exact⟨_,rfl,by assumption,by assumption,by assumption⟩
theorem cu.wE {cs:List SV}(h:cu w ρ env v (.aM cs)):∃vs:Array Value,v=.tuple vs∧vs.size=cs.length∧∀(i:Nat) (v:Value) (c:SV),vs[i]? = some v→cs[i]? = some c→cu w ρ env v c:=by
 generalize hs:SV.aM cs=sv at h
 cases h <;> cases hs
 exact⟨_,rfl,by assumption,by assumption⟩
theorem cu.iN {o off:Nat}(h:cu w ρ env v (.addr o off)):v=.pointer (some ⟨ρ.bh o,off,none⟩):=by
 generalize hs:SV.addr o off=sv at h
 cases h <;> cases hs
 rfl
theorem cu.lF {o size off:Nat}{x:E}(h:cu w ρ env v (.av o x size off)):∃(n:Nat) (k:IntKind),x.eval env=some (.v (.int k n))∧v=.pointer (some ⟨ρ.bh o,n*size+off,none⟩):=by
 generalize hs:SV.av o x size off=sv at h
 cases h <;> cases hs
 exact⟨_,_,by assumption,rfl⟩
theorem cu.pW {off:Nat}{x:E}(h:cu w ρ env v (.fT x off)):∃d,x.eval env=some d∧aZ w ρ.S v (.ptr (d.cells.drop off)):=by
 generalize hs:SV.fT x off=sv at h
 cases h <;> cases hs
 exact⟨_,by assumption,by assumption⟩
theorem cu.sP {k:Nat}{x:E}(h:cu w ρ env v (.own x k)):∃es,x.eval env=some (.a_ es)∧aZ w ρ.S v (.a_ es)∧v=ρ.val k:=by
 generalize hs:SV.own x k=sv at h
 cases h <;> cases hs
 exact⟨_,by assumption,by assumption,by assumption⟩
theorem cu.nT {o:Nat}(h:cu w ρ env v (.kF o)):v=ρ.val o:=by
 generalize hs:SV.kF o=sv at h
 cases h <;> cases hs
 rfl
theorem cu.lS {fn:Fn}{cs:List SV}(h:cu w ρ env v (.func fn cs)):∃vs:Array Value,v=.func fn #[] vs∧vs.size=cs.length∧∀(i:Nat) (v:Value) (c:SV),vs[i]? = some v→cs[i]? = some c→cu w ρ env v c:=by
 generalize hs:SV.func fn cs=sv at h
 cases h <;> cases hs
 exact⟨_,rfl,by assumption,by assumption⟩
theorem cu.Fl {act:List (E×Bool)}{sv:SV}(h:cu w ρ env v (.cond act sv)):(∀p,p∈act→∃d,p.1.eval env=some d)∧(aQ env act→cu w ρ env v sv)∧(¬aQ env act→v=undef):=by
 generalize hs:SV.cond act sv=sv' at h
 cases h <;> cases hs
 exact⟨by assumption,by assumption,by assumption⟩
end

mutual
def SV.aB (o:Nat):SV→Bool
 | .bS | .e _ _ | .fT _ _=>true
 | .agg cs | .aM cs=>SV.cR o cs
 | .func _ cs=>SV.cR o cs
 | .addr o' _ | .av o' _ _ _ | .own _ o' | .kF o'=>o' != o
 | .cond _ sv=>sv.aB o
def SV.cR (o:Nat):List SV→Bool
 | []=>true
 | s :: r=>s.aB o&&SV.cR o r
end

theorem SV.dV {o:Nat}:∀{cs:List SV} {i:Nat} {c:SV},SV.cR o cs=true→cs[i]? = some c→c.aB o=true
 | [],i,c,_,h=>by simp at h
 | s :: r,0,c,h,hi=>by simp[SV.cR] at h hi;exact hi ▸ h.1
 | s :: r,i+1,c,h,hi=>by simp[SV.cR] at h hi;exact SV.dV h.2 hi

def aE.aB (o:Nat):aE→Bool
 | .box cs=>SV.cR o cs
 | .row _ _ | .tok _ _ | .store _ _=>true

structure cr.Le (ρ ρ':cr)(ex:Nat→Prop):Prop where
 bh:∀o,¬ex o→ρ'.bh o=ρ.bh o
 val:∀o,¬ex o→ρ'.val o=ρ.val o
 S:ρ.S≤ρ'.S

structure cr.ql (ρ ρ':cr)(ex:Nat→Prop):Prop extends cr.Le ρ ρ' ex where
 n:¬ex aO→ρ'.S.n=ρ.S.n
 an:¬ex aO→ρ'.an=ρ.an

theorem cr.ql.refl (ρ:cr)(ex:Nat→Prop):ρ.ql ρ ex:=⟨⟨fun _ _=>rfl,fun _ _=>rfl,Sets.le_refl _⟩,fun _=>rfl,fun _=>rfl⟩

theorem iO {env env':List D}(h:env <+: env'){act:List (E×Bool)}(hd:∀p,p∈act→∃d,p.1.eval env=some d)(ha:aQ env' act):aQ env act:=by
 intro p hp
 obtain⟨b,hb⟩:=hd p hp
 have h1:=ha p hp
 rw[E.bN h _ hb] at h1
 rw[hb];exact h1

theorem qh {env env':List D}(h:env <+: env'){act:List (E×Bool)}(ha:aQ env act):aQ env' act:=fun p hp=>E.bN h _ (ha p hp)

theorem cu.env {w:World}{ρ:cr}{env env':List D}{v:Value}{sv:SV}(h:cu w ρ env v sv)(he:env <+: env'):cu w ρ env' v sv:=by
 induction h with
 | bS=>exact .bS
 | e hx h h1=>exact .e (E.bN he _ hx) h h1
 | agg hl ho _ ih=>exact .agg hl ho ih
 | aM hl _ ih=>exact .aM hl ih
 | addr=>exact .addr
 | av hx=>exact .av (E.bN he _ hx)
 | fT hx h=>exact .fT (E.bN he _ hx) h
 | own hx h hv=>exact .own (E.bN he _ hx) h hv
 | kF=>exact .kF
 | func hl _ ih=>exact .func hl ih
 | cond hd _ hn ih=>exact .cond (fun p hp=>let ⟨d,h⟩:=hd p hp;⟨d,E.bN he _ h⟩) (fun ha=>ih (iO he hd ha)) fun ha=>hn fun h=>ha (qh he h)

theorem cu.vH {w w':World}{ρ ρ':cr}{ex:Nat→Prop}{env:List D}{v:Value}{sv:SV}(h:cu w ρ env v sv)(hk:bp ρ.S w w')(hm:ρ.Le ρ' ex)(ha:∀o,ex o→sv.aB o=true):cu w' ρ' env v sv:=by
 induction h with
 | bS=>exact .bS
 | e hx h h1=>exact .e hx (h.keep hk hm.S) h1
 | agg hl ho _ ih=>exact .agg hl ho fun i v c h1 h2=>ih i v c h1 h2 fun o ho=>SV.dV (by simpa[SV.aB] using ha o ho) h2
 | aM hl _ ih=>exact .aM hl fun i v c h1 h2=>ih i v c h1 h2 fun o ho=>SV.dV (by simpa[SV.aB] using ha o ho) h2
 | @addr o off=>
  rw[←hm.bh o (fun ho=>by have:=ha o ho;simp[SV.aB] at this)]
  exact .addr
 | @av o size off n x k hx=>
  rw[←hm.bh o (fun ho=>by have:=ha o ho;simp[SV.aB] at this)]
  exact .av hx
 | fT hx h=>exact .fT hx (h.keep hk hm.S)
 | @own v x k es hx h hv=>exact .own hx (h.keep hk hm.S) (hv.trans (hm.val k (fun ho=>by have:=ha k ho;simp[SV.aB] at this)).symm)
 | @kF o=>
  rw[←hm.val o (fun ho=>by have:=ha o ho;simp[SV.aB] at this)]
  exact .kF
 | func hl _ ih=>exact .func hl fun i v c h1 h2=>ih i v c h1 h2 fun o ho=>SV.dV (by simpa[SV.aB] using ha o ho) h2
 | cond hd _ hn ih=>exact .cond hd (fun hh=>ih hh fun o ho=>by simpa[SV.aB] using ha o ho) hn

theorem cu.keep {w w':World}{ρ ρ':cr}{ex:Nat→Prop}{env:List D}{v:Value}{sv:SV}(h:cu w ρ env v sv)(hk:bp ρ.S w w')(hm:ρ.ql ρ' ex)(ha:∀o,ex o→sv.aB o=true):cu w' ρ' env v sv:=h.vH hk hm.toLe ha

def bw (ρ:cr)(o:Nat):aE→Nat→Prop
 | .box _,b | .row _ _,b=>ρ.bh o=b
 | .tok _ _,b=>(ρ.val o).ownBlock=some b
 | .store _ _,b=>ρ.an b

structure rA (es:Array MapEntry)(clock n:Nat):Prop where
 len:es.size=n
 RP:clock=n
 born:∀(j:Nat) (x:MapEntry),es[j]? = some x→x.born=j

def eX (es:Array MapEntry)(clock:Nat)(bH:List D):Prop:=if D.lost bH=true then es.size=(D.kept bH).length else rA es clock bH.length

theorem eX.size {es:Array MapEntry}{clock:Nat}{bH:List D}(h:eX es clock bH):es.size=(D.kept bH).length:=by
 unfold eX at h
 split at h
 ·exact h
 ·rename_i hl
  rw[D.oF (by simpa using hl)]
  exact h.len

theorem eX.sz {es:Array MapEntry}{clock:Nat}{bH:List D}(h:eX es clock bH)(hl:D.lost bH=false):rA es clock bH.length:=by
 unfold eX at h
 rwa [if_neg (by simp[hl])] at h

theorem eX.of {es:Array MapEntry}{clock:Nat}{bH:List D}(h:rA es clock bH.length)(hl:D.lost bH=false):eX es clock bH:=by
 unfold eX
 rwa [if_neg (by simp[hl])]

def Ad:TypeId:=1000000000

def lA (w:World)(b:Nat)(vs:Array Value)(e:TypeId):Prop:=∃e',w.heap[b]? = some (.cells vs e' (0,0))∧(e=Ad∨e'=e)

theorem lA.of {w:World}{b:Nat}{vs:Array Value}{e:TypeId}(h:w.heap[b]? = some (.cells vs e (0,0))):lA w b vs e:=⟨e,h,.inr rfl⟩
theorem lA.to {w w':World}{b:Nat}{vs:Array Value}{e:TypeId}(h:lA w b vs e)(hh:w'.heap[b]? = w.heap[b]?):lA w' b vs e:=by
 obtain⟨e',h1,h2⟩:=h
 exact⟨e',hh.trans h1,h2⟩

structure ck (w:World)(S:Sets)(an:Nat→Prop)(bs:List D):Prop where
 n:S.n=bs.length
 cells:∀(i:Nat) (e:TypeId) (sz:Nat) (cs:List D),bs[i]? = some (.bh e sz cs)→an (S.loc i)∧∃vs:Array Value,lA w (S.loc i) vs e∧vs.size=S.cap i*sz∧cs.length≤vs.size ∧
  (∀(j:Nat) (d:D),cs[j]? = some d→d.one=true)∧(∀(j:Nat) (v:Value) (d:D),vs[j]? = some v→cs[j]? = some d→aZ w S v d)∧∀off,¬S (S.loc i) off
 rH:∀b off,an b→¬S b off
 maps:∀(i:Nat) (bH:List D),bs[i]? = some (.fm bH)→an (S.loc i)∧∃(es:Array MapEntry) (clock:Nat),w.heap[S.loc i]? = some (.map es clock)∧eX es clock bH∧(∀off,¬S (S.loc i) off) ∧
  ∀(j:Nat) (e:MapEntry) (kv:D),es[j]? = some e→(D.kept bH)[j]? = some kv→∃dk dv,kv=.aM [dk,dv]∧aZ w S e.key dk∧aZ w S e.val dv
 inj:∀(i j:Nat) (x y:D),bs[i]? = some x→bs[j]? = some y→x.live=true→y.live=true→S.loc i=S.loc j→i=j
 pV:∀(i:Nat) (z:D),bs[i]? = some z→z.isIt=true→an (S.loc i)∧qm S i w.heap[S.loc i]? z∧∀off,¬S (S.loc i) off

theorem ck.gF {w:World}{S:Sets}{an:Nat→Prop}{bs:List D}(h:ck w S an bs){i:Nat}{x:D}(hi:bs[i]? = some x)(hx:x.live=true):an (S.loc i):=by
 cases x <;> simp[D.live] at hx
 ·exact(h.cells i _ _ _ hi).1
 ·exact(h.maps i _ hi).1
 ·exact(h.pV i _ hi rfl).1
 ·exact(h.pV i _ hi rfl).1
 ·exact(h.pV i _ hi rfl).1
 ·exact(h.pV i _ hi rfl).1

theorem ck.set {w w':World} {S:Sets} {an:Nat→Prop} {bs:List D} {i:Nat} {z z':D} (hst:ck w S an bs) (hK:bp S w w') (hz:bs[i]? = some z) (hzl:z.live=true)
  (mI:∀(j:Nat) (x:D),bs[j]? = some x→x.live=true→S.loc j≠S.loc i→w'.heap[S.loc j]? = w.heap[S.loc j]?)
  (h1:∀(e:TypeId) (sz:Nat) (cs:List D),z'=.bh e sz cs→∃vs:Array Value,lA w' (S.loc i) vs e∧vs.size=S.cap i*sz∧cs.length≤vs.size∧(∀(j:Nat) (d:D),cs[j]? = some d→d.one=true)∧∀(j:Nat) (v:Value) (d:D),vs[j]? = some v→cs[j]? = some d→aZ w' S v d)
  (h2:∀bH:List D,z'=.fm bH→∃(es:Array MapEntry) (clock:Nat),w'.heap[S.loc i]? = some (.map es clock)∧eX es clock bH∧∀(j:Nat) (e:MapEntry) (kv:D),es[j]? = some e→(D.kept bH)[j]? = some kv→∃dk dv,kv=.aM [dk,dv]∧aZ w' S e.key dk∧aZ w' S e.val dv)
  (h3:z'.isIt=true→qm S i w'.heap[S.loc i]? z'):ck w' S an (bs.set i z'):=by
 have hf:=hst.gF hz hzl
 have jk:∀off,¬S (S.loc i) off:=fun off=>hst.rH _ off hf
 have hc:∀{j:Nat} {x:D},(bs.set i z')[j]? = some x→x.live=true→(j=i∧x=z')∨(bs[j]? = some x∧w'.heap[S.loc j]? = w.heap[S.loc j]?):=by
  intro j x hj hx
  rw[A0x] at hj
  split at hj
  ·rename_i hij
   subst hij
   rw[if_pos (A0a.1 hz).1] at hj
   cases hj
   exact .inl ⟨rfl,rfl⟩
  ·rename_i hij
   exact .inr ⟨hj,mI j x hj hx fun e=>hij (hst.inj j i _ _ hj hz hx hzl e).symm⟩
 refine⟨by rw[hst.n];simp,fun j e sz cs hj=>?_,hst.rH,fun j bH hj=>?_,fun j k x y hj hk hx hy hl=>?_,fun j z1 hj uU=>?_⟩
 ·rcases hc hj rfl with⟨rfl,e1⟩ | ⟨hj',hh⟩
  ·obtain⟨vs,g1,g2,g3,g4,g5⟩:=h1 e sz cs e1.symm
   exact⟨hf,vs,g1,g2,g3,g4,g5,jk⟩
  ·obtain⟨g0,vs,g1,g2,g3,g4,g5,g6⟩:=hst.cells j _ _ _ hj'
   exact⟨g0,vs,g1.to hh,g2,g3,g4,fun k v d hv hd=>(g5 k v d hv hd).keep hK (Sets.le_refl _),g6⟩
 ·rcases hc hj rfl with⟨rfl,e1⟩ | ⟨hj',hh⟩
  ·obtain⟨es,clock,g1,g2,g3⟩:=h2 bH e1.symm
   exact⟨hf,es,clock,g1,g2,jk,g3⟩
  ·obtain⟨g0,es,clock,g1,g2,g3,g4⟩:=hst.maps j _ hj'
   refine⟨g0,es,clock,hh.trans g1,g2,g3,fun k e kv he hkv=>?_⟩
   obtain⟨dk,dv,k1,k2,k3⟩:=g4 k e kv he hkv
   exact⟨dk,dv,k1,k2.keep hK (Sets.le_refl _),k3.keep hK (Sets.le_refl _)⟩
 ·have old:∀{k:Nat} {x:D},(bs.set i z')[k]? = some x→x.live=true→∃y,bs[k]? = some y∧y.live=true:=fun h hl=>by
   rcases hc h hl with⟨rfl,_⟩ | ⟨h',_⟩
   ·exact⟨z,hz,hzl⟩
   ·exact⟨_,h',hl⟩
  obtain⟨_,a1,a2⟩:=old hj hx
  obtain⟨_,b1,b2⟩:=old hk hy
  exact hst.inj j k _ _ a1 b1 a2 b2 hl
 ·rcases hc hj (D.ff uU) with⟨rfl,e1⟩ | ⟨hj',hh⟩
  ·subst e1
   exact⟨hf,h3 uU,jk⟩
  ·rw[hh]
   exact hst.pV j _ hj' uU

def fI (w:World)(ρ:cr)(env:List D)(o:Nat):aE→Prop
 | .box cs=>∃(vs:Array Value) (ty:TypeId),w.heap[ρ.bh o]? = some (.cells vs ty (0,0))∧vs.size=cs.length∧(∀(i:Nat) (v:Value),vs[i]? = some v→v.oneCell'=true) ∧
   (∀(i:Nat) (v:Value) (c:SV),vs[i]? = some v→cs[i]? = some c→cu w ρ env v c)∧∀off,¬ρ.S (ρ.bh o) off
 | .row x size=>∃(vs:Array Value) (ty:TypeId) (es:List D),w.heap[ρ.bh o]? = some (.cells vs ty (0,0))∧x.eval env=some (.a_ es)∧(∀(i:Nat) (e:D),es[i]? = some e→e.cells.length=size) ∧
   vs.size=es.length*size∧(∀(i:Nat) (e:D) (j:Nat) (d:D),es[i]? = some e→e.cells[j]? = some d→d.one=true∧∃v,vs[i*size+j]? = some v∧aZ w ρ.S v d) ∧
   ρ.val o=.slice (some ⟨ρ.bh o,0,none⟩) es.length es.length∧es.length≤maxLen∧∀off,¬ρ.S (ρ.bh o) off
 | .store _ x=>∃bs,x.eval env=some (.st bs)∧ck w ρ.S ρ.an bs∧o=aO
 | .tok e size=>∃(n:Nat) (xs:List Value),w.ownsRow 0 e size (ρ.val o) n xs∧∀b,(ρ.val o).ownBlock=some b→∀off,n*size≤off→¬ρ.S b off

structure gB where
 may:Nat→Prop
 S:Sets
 an:Nat→Prop
 zK:List Deferred:=[]

structure bE (w0:World)(X:gB)(w:World)(a:Act)(σ:af)(env:List D)(ρ:cr):Prop where
 size:a.tmps.size=σ.tmps.length
 tmps:∀t,cu w ρ env (a.tmps.getD t undef) (σ.tmp t)
 cn:∀o x,σ.obj o=some x→fI w ρ env o x
 inj:∀o o' x x' b,σ.obj o=some x→σ.obj o'=some x'→bw ρ o x b→bw ρ o' x' b→o=o'
 own:∀o x b,σ.obj o=some x→bw ρ o x b→((x.ro=true∧X.an b)∨w0.heap.size≤b∨X.may b)∧b<w.heap.size
 cells:∀b o,ρ.S b o→b<w.heap.size
 os:w.os=w0.os
 tape:TL w w0
 output:w.output=w0.output
 grown:w0.heap.size≤w.heap.size
 old:∀b,b<w0.heap.size→¬X.may b→w.heap[b]? = w0.heap[b]?
 sub:X.S≤ρ.S
 new:∀b o,ρ.S b o→X.S b o∨w0.heap.size≤b∨X.may b
 su:a.defers=X.zK
 hold:∀l rec,X.S.hold l=some rec→w0.heap[l]? = some (.loop rec)∧¬X.may l∧¬X.an l

theorem fI.env {w:World}{ρ:cr}{env env':List D}{o:Nat}{x:aE}(h:fI w ρ env o x)(he:env <+: env'):fI w ρ env' o x:=by
 cases x with
 | box cs=>
  obtain⟨vs,ty,h1,h2,h3,h4,h5⟩:=h
  exact⟨vs,ty,h1,h2,h3,fun i v c hv hc=>(h4 i v c hv hc).env he,h5⟩
 | row x size=>
  obtain⟨vs,ty,es,h1,h2,h3⟩:=h
  exact⟨vs,ty,es,h1,E.bN he _ h2,h3⟩
 | tok e size=>exact h
 | store ro x=>
  obtain⟨bs,h1,h2⟩:=h
  exact⟨bs,E.bN he _ h1,h2⟩

theorem bE.env {w0:World}{X:gB}{w:World}{a:Act}{σ:af}{env env':List D}{ρ:cr}(h:bE w0 X w a σ env ρ)(he:env <+: env'):bE w0 X w a σ env' ρ:=
 ⟨h.size,fun t=>(h.tmps t).env he,fun o x hx=>(h.cn o x hx).env he,h.inj,h.own,h.cells,h.os,h.tape,h.output,h.grown,h.old,h.sub,h.new,h.su,h.hold⟩

theorem af.sC {σ:af}{d:Nat}{sv:SV}(hd:d<σ.tmps.length)(t:Nat):(σ.put (some d) sv).tmp t=if t=d then sv else σ.tmp t:=by
 simp only[af.ep,af.eH,A0i,A0x]
 by_cases h:d=t
 ·subst h;simp[hd]
 ·simp[h,Ne.symm h]

theorem af.wM (σ:af)(dst:Option Tmp)(sv:SV)(o:Nat):(σ.put dst sv).obj o=σ.obj o:=by
 cases dst <;> rfl

theorem af.dQ {σ:af}{o:Nat}{x:Option aE}(ho:o=aO∨o<σ.mem.length)(o':Nat):(σ.setObj o x).obj o'=if o'=o then x else σ.obj o':=by
 simp only[af.d_,af.cK]
 by_cases hh:o=aO
 ·subst hh
  simp only[if_true]
  split <;> rfl
 ·have ho:=ho.resolve_left hh
  simp only[hh,if_false,A0i,A0x]
  by_cases h:o=o'
  ·subst h;simp[ho,hh]
  ·simp[h,Ne.symm h]

theorem af.jQ {σ:af}{o:Nat}{x:Option aE}(ho:o<σ.mem.length)(o':Nat):(σ.setObj o x).obj o'=if o'=o then x else σ.obj o':=af.dQ (.inr ho) o'

theorem af.cT (σ:af){o o':Nat}(x:Option aE)(h:o'≠o):(σ.setObj o x).obj o'=σ.obj o':=by
 simp only[af.d_,af.cK]
 by_cases hh:o=aO
 ·subst hh
  simp[h]
 ·simp only[hh,if_false,A0i,A0x]
  simp[Ne.symm h]

theorem af.wj {σ:af}{o o':Nat}{x:Option aE}{y:aE}(h:(σ.setObj o x).obj o'=some y):(o'=o∧x=some y)∨(o'≠o∧σ.obj o'=some y):=by
 by_cases e:o'=o
 ·subst e
  refine .inl ⟨rfl,?_⟩
  simp only[af.d_,af.cK] at h
  by_cases hh:o'=aO
  ·simpa[hh] using h
  ·simp only[hh,if_false,A0i,A0x] at h
   simp only[if_true] at h
   split at h
   ·simpa using h
   ·simp at h
 ·exact .inr ⟨e,by rwa [af.cT σ x e] at h⟩

theorem af.eA (σ:af)(o:Nat)(x:Option aE)(t:Nat):(σ.setObj o x).tmp t=σ.tmp t:=by
 simp only[af.d_];split <;> rfl

theorem af.aA (σ:af)(o:Nat)(x:Option aE):(σ.setObj o x).tmps=σ.tmps:=by
 simp only[af.d_];split <;> rfl

theorem af.ei (σ:af)(o:Nat)(x:Option aE):(σ.setObj o x).mem.length=σ.mem.length:=by
 simp only[af.d_];split <;> simp

theorem Act.tE (a:Act)(d:Nat)(v:Value)(hd:d<a.tmps.size)(t:Nat):(a.put (some d) v).tmps.getD t undef=if t=d then v else a.tmps.getD t undef:=by
 simp only[Act.put,A0p,Array.getElem?_setIfInBounds]
 by_cases h:d=t
 ·subst h;simp[hd]
 ·simp[h,Ne.symm h]

theorem bE.put {w0:World} {X:gB} {w:World} {a:Act} {σ:af} {env:List D} {ρ:cr} (h:bE w0 X w a σ env ρ) {dst:Option Tmp} {v:Value} {sv:SV} (hd:∀d,dst=some d→d<σ.tmps.length)
  (hv:cu w ρ env v sv):bE w0 X w (a.put dst v) (σ.put dst sv) env ρ:=by
 cases dst with
 | none=>exact h
 | some d=>
  have hd:=hd d rfl
  refine⟨by simp[Act.put,af.ep,h.size],fun t=>?_,h.cn,h.inj,h.own,h.cells,h.os,h.tape,h.output,h.grown,h.old,h.sub,h.new,h.su,h.hold⟩
  rw[af.sC hd,Act.tE _ _ _ (by rw[h.size];exact hd)]
  split
  ·exact hv
  ·exact h.tmps t

end
end

section
noncomputable section

theorem gr (w:World)(o:Obj)(b:Nat)(hb:b<w.heap.size):(w.alloc o).heap[b]? = w.heap[b]?:=by
 simp only[World.alloc]
 rw[Array.getElem?_push,if_neg (by omega)]

theorem uE {w w':World}{base:Nat}{e:TypeId}{size:Nat}{v:Value}{n:Nat}{xs:List Value}(h:w.ownsRow base e size v n xs)(hb:∀g,v.ownBlock=some g→w'.heap[g]? = w.heap[g]?):w'.ownsRow base e size v n xs:=by
 refine⟨h.1,?_⟩
 rcases h.2 with h2 | ⟨g,cap,cur,hv,hg,hh,r⟩
 ·exact .inl h2
 ·refine .inr ⟨g,cap,cur,hv,hg,?_,r⟩
  rw[hb g (by rw[hv];rfl)]
  exact hh

theorem fI.vH {w w':World} {ρ ρ':cr} {ex:Nat→Prop} {env:List D} {o:Nat} {x:aE} (h:fI w ρ env o x) (hk:bp ρ.S w w') (hm:ρ.Le ρ' ex) (hst:o=aO→ρ'.S.n=ρ.S.n∧ρ'.an=ρ.an) (ho:¬ex o) (ha:∀o',ex o'→x.aB o'=true)
  (hb:∀b,bw ρ o x b→w'.heap[b]? = w.heap[b]?) (hS:∀b off,bw ρ o x b→ρ'.S b off→ρ.S b off):fI w' ρ' env o x:=by
 have h1:=hm.bh o ho
 have h2:=hm.val o ho
 cases x with
 | box cs=>
  obtain⟨vs,ty,hh,hl,hone,hr,hn⟩:=h
  refine⟨vs,ty,by rw[h1,hb _ rfl];exact hh,hl,hone,fun i v c hv hc=>(hr i v c hv hc).vH hk hm fun o' ho'=>SV.dV (by simpa[aE.aB] using ha o' ho') hc,fun off hs=>?_⟩
  rw[h1] at hs
  exact hn off (hS _ off rfl hs)
 | row x size=>
  obtain⟨vs,ty,es,hh,hx,hz,hl,hr,hv,hm1,hn⟩:=h
  refine⟨vs,ty,es,by rw[h1,hb _ rfl];exact hh,hx,hz,hl,fun i e j d he hd=>?_,by rw[h1,h2];exact hv,hm1,fun off hs=>?_⟩
  ·obtain⟨hone,v,hv,hrd⟩:=hr i e j d he hd
   exact⟨hone,v,hv,hrd.keep hk hm.S⟩
  ·rw[h1] at hs
   exact hn off (hS _ off rfl hs)
 | tok e size=>
  obtain⟨n,xs,hown,hn⟩:=h
  refine⟨n,xs,?_,?_⟩
  ·rw[h2]
   exact uE hown fun g hg=>hb g hg
  ·intro b Yk off hoff hs
   rw[h2] at Yk
   exact hn b Yk off hoff (hS b off Yk hs)
 | store ro x=>
  obtain⟨bs,hx,hs0,he⟩:=h
  obtain⟨FE,hsf⟩:=hst he
  have hst:=hs0
  refine⟨bs,hx,⟨FE.trans hst.n,fun i e sz cs hi=>?_,fun b off hf hs=>by rw[hsf] at hf;exact hst.rH b off hf (hS b off hf hs),fun i bH hi=>?_,fun i j x y hi hj hx hy hl=>?_,fun i z hi hz=>?_⟩,he⟩
  ·obtain⟨hf,vs,hh,hsz,hl,hone,hr,hn⟩:=hst.cells i e sz cs hi
   have hlt:i<ρ.S.n:=by rw[hst.n];exact(A0a.1 hi).1
   rw[hm.S.loc i hlt,hm.S.cap i hlt,hsf]
   refine⟨hf,vs,hh.to (hb _ hf),hsz,hl,hone,fun j v d hv hd=>(hr j v d hv hd).keep hk hm.S,fun off hs=>hn off (hS _ off hf hs)⟩
  ·obtain⟨hf,es,clock,hh,hsz,hn,hr⟩:=hst.maps i bH hi
   have hlt:i<ρ.S.n:=by rw[hst.n];exact(A0a.1 hi).1
   rw[hm.S.loc i hlt,hsf]
   refine⟨hf,es,clock,by rw[hb _ hf];exact hh,hsz,fun off hs=>hn off (hS _ off hf hs),fun j e kv he hkv=>?_⟩
   obtain⟨dk,dv,h1,h2,h3⟩:=hr j e kv he hkv
   exact⟨dk,dv,h1,h2.keep hk hm.S,h3.keep hk hm.S⟩
  ·have h1:i<ρ.S.n:=by rw[hst.n];exact(A0a.1 hi).1
   have h2:j<ρ.S.n:=by rw[hst.n];exact(A0a.1 hj).1
   rw[hm.S.loc i h1,hm.S.loc j h2] at hl
   exact hst.inj i j x y hi hj hx hy hl
  ·obtain⟨hf,hh,hn⟩:=hst.pV i z hi hz
   have hlt:i<ρ.S.n:=by rw[hst.n];exact(A0a.1 hi).1
   rw[hm.S.loc i hlt,hsf]
   exact⟨hf,by rw[hb _ hf];exact hh.to (by rw[FE];exact A0m _) hm.S.loc (hm.S.jt i hlt) hlt,fun off hs=>hn off (hS _ off hf hs)⟩

theorem fI.keep {w w':World} {ρ ρ':cr} {ex:Nat→Prop} {env:List D} {o:Nat} {x:aE} (h:fI w ρ env o x) (hk:bp ρ.S w w') (hm:ρ.ql ρ' ex) (ho:¬ex o) (ha:∀o',ex o'→x.aB o'=true)
  (hb:∀b,bw ρ o x b→w'.heap[b]? = w.heap[b]?) (hS:∀b off,bw ρ o x b→ρ'.S b off→ρ.S b off):fI w' ρ' env o x:=
 h.vH hk hm.toLe (fun e=>⟨hm.n (e ▸ ho),hm.an (e ▸ ho)⟩) ho ha hb hS

theorem Bb {ρ ρ':cr}{ex:Nat→Prop}(hm:ρ.Le ρ' ex){o:Nat}(hst:o=aO→ρ'.an=ρ.an)(ho:¬ex o){w:World}{env:List D}{x:aE}(h:fI w ρ env o x):bw ρ' o x=bw ρ o x:=by
 cases x with
 | store ro x=>
  obtain⟨_,_,_,he⟩:=h
  funext b
  simp only[bw,hst he]
 | _=>funext b;simp[bw,hm.bh o ho,hm.val o ho]

theorem ee {ρ ρ':cr}{ex:Nat→Prop}(hm:ρ.ql ρ' ex){o:Nat}(ho:¬ex o){w:World}{env:List D}{x:aE}(h:fI w ρ env o x):bw ρ' o x=bw ρ o x:=
 Bb hm.toLe (fun e=>hm.an (e ▸ ho)) ho h

theorem bE.move {w0:World} {X:gB} {w w':World} {a:Act} {σ:af} {env:List D} {ρ ρ':cr} (h:bE w0 X w a σ env ρ) (hk:bp ρ.S w w') (hm:ρ.ql ρ' fun _=>False)
  (hb:∀o x b,σ.obj o=some x→bw ρ o x b→w'.heap[b]? = w.heap[b]?) (hS:∀o x b off,σ.obj o=some x→bw ρ o x b→ρ'.S b off→ρ.S b off)
  (hc:∀b o,ρ'.S b o→b<w'.heap.size) (hos:w'.os=w.os) (ht:TL w' w) (hout:w'.output=w.output) (hsz:w.heap.size≤w'.heap.size)
  (hold:∀b,b<w0.heap.size→¬X.may b→w'.heap[b]? = w.heap[b]?) (hnew:∀b o,ρ'.S b o→ρ.S b o∨w0.heap.size≤b):bE w0 X w' a σ env ρ':=by
 refine⟨h.size,fun t=>(h.tmps t).keep hk hm fun _ hf=>hf.elim,fun o x hx=>(h.cn o x hx).keep hk hm id (fun _ hf=>hf.elim) (fun b=>hb o x b hx) (fun b off=>hS o x b off hx),?_,?_,hc,
  hos.trans h.os,ht.trans h.tape,hout.trans h.output,B0e h.grown hsz,fun b h1 h2=>(hold b h1 h2).trans (h.old b h1 h2),Sets.le_trans h.sub hm.S,fun b o hs=>(hnew b o hs).elim (h.new b o) fun e=>.inr (.inl e),h.su,h.hold⟩
 ·intro o o' x x' b h1 h2 h3 h4
  rw[ee hm (fun hf=>hf) (h.cn _ _ h1)] at h3
  rw[ee hm (fun hf=>hf) (h.cn _ _ h2)] at h4
  exact h.inj o o' x x' b h1 h2 h3 h4
 ·intro o x b h1 h2
  rw[ee hm (fun hf=>hf) (h.cn _ _ h1)] at h2
  obtain⟨h3,h4⟩:=h.own o x b h1 h2
  exact⟨h3,A0s h4 hsz⟩

theorem bE.drew {w0:World}{X:gB}{w:World}{a:Act}{σ:af}{env:List D}{ρ:cr}(h:bE w0 X w a σ env ρ):bE w0 X w.drew a σ env ρ:=
 h.move (bp.refl _ _) (cr.ql.refl _ _) (fun _ _ _ _ _=>rfl) (fun _ _ _ _ _ _ hs=>hs) h.cells rfl ⟨rfl,Nat.le_succ _⟩ rfl (A0m _) (fun _ _ _=>rfl) fun _ _ hs=>.inl hs


def Sets.or (S:Sets)(p:Nat→Nat→Prop):Sets:={ S with mem:=fun b o=>S b o∨p b o }

theorem Sets.mr (S:Sets)(p:Nat→Nat→Prop):S≤S.or p:=⟨fun _ _ h=>.inl h,A0m _,fun _ _=>rfl,fun _ _=>rfl,rfl,fun _ _=>rfl⟩

def cr.AT (ρ:cr)(b0:Nat):cr:={ ρ with S:=ρ.S.or fun b _=>b=b0 }

theorem cr.xk (ρ:cr)(b0:Nat)(ex:Nat→Prop):ρ.ql (ρ.AT b0) ex:=⟨⟨fun _ _=>rfl,fun _ _=>rfl,ρ.S.mr _⟩,fun _=>rfl,fun _=>rfl⟩

theorem bp.alloc {S:Sets}{w:World}(hS:∀b o,S b o→b<w.heap.size)(o:Obj):bp S w (w.alloc o):=fun b i hs=>World.cell?_alloc_lt w o ⟨b,i,none⟩ (hS b i hs)

theorem bE.Ow {w0:World}{X:gB}{w:World}{a:Act}{σ:af}{env:List D}{ρ:cr}(h:bE w0 X w a σ env ρ)(o:Obj):bE w0 X (w.alloc o) a σ env (ρ.AT w.heap.size):=by
 refine h.move (bp.alloc h.cells o) (ρ.xk _ _) ?_ ?_ ?_ rfl ⟨rfl,A0m _⟩ rfl (by simp) ?_ fun b i hs=>hs.elim .inl fun e=>.inr (by have:=h.grown;omega)
 ·intro o' x b h1 h2
  exact gr w o b (h.own o' x b h1 h2).2
 ·intro o' x b off h1 h2 h3
  rcases h3 with h3 | h3
  ·exact h3
  ·have:=(h.own o' x b h1 h2).2;omega
 ·intro b i hs
  rcases hs with hs | hs
  ·have:=h.cells b i hs;simp;omega
  ·simp;omega
 ·intro b h1 _
  have:=h.grown
  exact gr w o b (by omega)

def cr.eo (ρ:cr)(o b:Nat)(v:Value):cr:={ ρ with bh:=fun x=>if x=o then b else ρ.bh x,val:=fun x=>if x=o then v else ρ.val x }

theorem cr.sA (ρ:cr)(o b:Nat)(v:Value):ρ.ql (ρ.eo o b v) (·=o):=
 ⟨⟨fun x hx=>by simp[cr.eo,hx],fun x hx=>by simp[cr.eo,hx],Sets.le_refl _⟩,fun _=>rfl,fun _=>rfl⟩

def af.aB (σ:af)(o:Nat):Prop:=(∀t,(σ.tmp t).aB o=true)∧∀o' x,σ.obj o'=some x→x.aB o=true

theorem bE.eo {w0:World} {X:gB} {w w':World} {a:Act} {σ:af} {env:List D} {ρ:cr} (h:bE w0 X w a σ env ρ) {o:Nat} (ho:o<σ.mem.length) (hfree:σ.obj o=none) (kN:σ.aB o) {v:Value} {x:aE}
  (hk:bp ρ.S w w') (hb:∀b,b<w.heap.size→w'.heap[b]? = w.heap[b]?) (hos:w'.os=w.os) (ht:TL w' w) (hout:w'.output=w.output) (hsz:w.heap.size<w'.heap.size)
  (hok:fI w' (ρ.eo o w.heap.size v) env o x) (jj:∀b,bw (ρ.eo o w.heap.size v) o x b→b=w.heap.size):bE w0 X w' a (σ.setObj o (some x)) env (ρ.eo o w.heap.size v):=by
 have hm:=ρ.sA o w.heap.size v
 have hne:∀o' y,σ.obj o'=some y→o'≠o:=fun o' y hy e=>by rw[e,hfree] at hy;cases hy
 refine⟨by rw[af.aA];exact h.size,fun t=>?_,?_,?_,?_,fun b i hs=>A0s (h.cells b i hs) (Nat.le_of_lt hsz),hos.trans h.os,ht.trans h.tape,hout.trans h.output,B0e h.grown (Nat.le_of_lt hsz),?_,h.sub,h.new,h.su,h.hold⟩
 ·rw[af.eA];exact(h.tmps t).keep hk hm fun o' e=>by subst e;exact kN.1 t
 ·intro o' y hy
  rw[af.jQ ho] at hy
  by_cases e:o'=o
  ·subst e;simp at hy;subst hy;exact hok
  ·simp[e] at hy
   refine(h.cn o' y hy).keep hk hm e (fun o'' e'=>by subst e';exact kN.2 o' y hy) (fun b hb'=>hb b (h.own o' y b hy hb').2) fun _ _ _ hs=>hs
 ·intro o1 o2 y1 y2 b h1 h2 h3 h4
  rw[af.jQ ho] at h1 h2
  by_cases e1:o1=o <;> by_cases e2:o2=o
  ·rw[e1,e2]
  ·subst e1;simp at h1;subst h1
   simp[e2] at h2
   rw[ee hm e2 (h.cn _ _ h2)] at h4
   have:=jj b h3
   have:=(h.own o2 y2 b h2 h4).2
   omega
  ·subst e2;simp at h2;subst h2
   simp[e1] at h1
   rw[ee hm e1 (h.cn _ _ h1)] at h3
   have:=jj b h4
   have:=(h.own o1 y1 b h1 h3).2
   omega
  ·simp[e1] at h1;simp[e2] at h2
   rw[ee hm e1 (h.cn _ _ h1)] at h3
   rw[ee hm e2 (h.cn _ _ h2)] at h4
   exact h.inj o1 o2 y1 y2 b h1 h2 h3 h4
 ·intro o' y b hy hb'
  rw[af.jQ ho] at hy
  by_cases e:o'=o
  ·subst e;simp at hy;subst hy
   have:=jj b hb'
   have:=h.grown
   exact⟨.inr (.inl (by omega)),by omega⟩
  ·simp[e] at hy
   rw[ee hm e (h.cn _ _ hy)] at hb'
   obtain⟨h1,h2⟩:=h.own o' y b hy hb'
   exact⟨h1,by omega⟩
 ·intro b h1 h2
  exact(hb b (by have:=h.grown;omega)).trans (h.old b h1 h2)

theorem bE.setBlock {w0:World} {X:gB} {w w':World} {a:Act} {σ:af} {env:List D} {ρ:cr} (h:bE w0 X w a σ env ρ) {o:Nat} (ho:o=aO∨o<σ.mem.length) {x x':aE} (hx:σ.obj o=some x) {b0:Nat} (hb0:bw ρ o x b0) (hro:x.ro=false) (lY:∀b,bw ρ o x' b→bw ρ o x b)
  (hfree:∀off,¬ρ.S b0 off) (hb:∀b,b≠b0→w'.heap[b]? = w.heap[b]?) (hos:w'.os=w.os) (ht:TL w' w) (hout:w'.output=w.output) (hsz:w'.heap.size=w.heap.size)
  (hok:bp ρ.S w w'→fI w' ρ env o x'):bE w0 X w' a (σ.setObj o (some x')) env ρ:=by
 have hk:bp ρ.S w w':=fun b i hs=>World.cell?_of_block (a:=⟨b,i,none⟩) (hb b fun e=>by subst e;exact hfree i hs)
 have hm:=cr.ql.refl ρ fun _=>False
 have hown:∀b,bw ρ o x b→(w0.heap.size≤b∨X.may b)∧b<w.heap.size:=fun b hb=>by
  have:=h.own o x b hx hb
  rw[hro] at this
  exact⟨this.1.resolve_left (by simp),this.2⟩
 refine⟨by rw[af.aA];exact h.size,fun t=>by rw[af.eA];exact(h.tmps t).keep hk hm fun _ hf=>hf.elim,?_,?_,?_,fun b i hs=>by rw[hsz];exact h.cells b i hs,hos.trans h.os,ht.trans h.tape,hout.trans h.output,by rw[hsz];exact h.grown,?_,h.sub,h.new,h.su,h.hold⟩
 ·intro o' y hy
  rw[af.dQ ho] at hy
  by_cases e:o'=o
  ·subst e;simp at hy;subst hy;exact hok hk
  ·simp[e] at hy
   refine(h.cn o' y hy).keep hk hm id (fun _ hf=>hf.elim) (fun b hb'=>hb b fun e'=>e ?_) fun _ _ _ hs=>hs
   subst e'
   exact h.inj o' o y x b hy hx hb' hb0
 ·intro o1 o2 y1 y2 b h1 h2 h3 h4
  rw[af.dQ ho] at h1 h2
  by_cases e1:o1=o <;> by_cases e2:o2=o
  ·rw[e1,e2]
  ·subst e1;simp at h1;subst h1
   simp[e2] at h2
   exact h.inj o1 o2 x y2 b hx h2 (lY b h3) h4
  ·subst e2;simp at h2;subst h2
   simp[e1] at h1
   exact h.inj o1 o2 y1 x b h1 hx h3 (lY b h4)
  ·simp[e1] at h1;simp[e2] at h2
   exact h.inj o1 o2 y1 y2 b h1 h2 h3 h4
 ·intro o' y b hy hb'
  rw[af.dQ ho] at hy
  rw[hsz]
  by_cases e:o'=o
  ·subst e;simp at hy;subst hy
   exact⟨.inr (hown b (lY b hb')).1,(hown b (lY b hb')).2⟩
  ·simp[e] at hy
   exact h.own o' y b hy hb'
 ·intro b h1 h2
  have hne:b≠b0:=fun e=>by
   subst e
   rcases(hown b hb0).1 with h3 | h3
   ·omega
   ·exact h2 h3
  exact(hb b hne).trans (h.old b h1 h2)

theorem bE.eI {w0:World} {X:gB} {w w':World} {a:Act} {σ:af} {env:List D} {ρ:cr} (h:bE w0 X w a σ env ρ) {cf:bV} {x x':E} (hx:σ.obj aO=some (.store cf x)) (hro:cf.ro=false) {S':Sets} {bf:Nat→Prop} {bs':List D} (he:x'.eval env=some (.st bs')) (hst:ck w' S' bf bs')
  (hk:bp ρ.S w w') (hS:ρ.S≤S') (hos:w'.os=w.os) (ht:TL w' w) (hout:w'.output=w.output) (hsz:w.heap.size≤w'.heap.size) (hb:∀b,b<w.heap.size→¬ρ.an b→w'.heap[b]? = w.heap[b]?)
  (hf:∀b,bf b→(ρ.an b∨w.heap.size≤b)∧b<w'.heap.size) (Bs:∀b o,S' b o→ρ.S b o∨ρ.an b∨w.heap.size≤b) (CL:∀b o,S' b o→b<w'.heap.size) :
  bE w0 X w' a (σ.setObj aO (some (.store cf x'))) env { ρ with S:=S',an:=bf }:=by
 have hle:ρ.Le { ρ with S:=S',an:=bf } (fun _=>False):=⟨fun _ _=>rfl,fun _ _=>rfl,hS⟩
 have Ng:∀b,ρ.an b→(w0.heap.size≤b∨X.may b)∧b<w.heap.size:=fun b hb=>by
  have:=h.own aO _ b hx hb
  simp only[aE.ro,hro] at this
  exact⟨this.1.resolve_left (by simp),this.2⟩
 have hnf:∀o y b,o≠aO→σ.obj o=some y→bw ρ o y b→¬ρ.an b:=fun o y b hne hy hb hf=>hne (h.inj o aO y _ b hy hx hb hf)
 have jj:∀o y,o≠aO→σ.obj o=some y→bw { ρ with S:=S',an:=bf } o y=bw ρ o y:=fun o y hne hy=>Bb hle (fun e=>absurd e hne) (fun hf=>hf) (h.cn o y hy)
 refine⟨by rw[af.aA];exact h.size,fun t=>by rw[af.eA];exact(h.tmps t).vH hk hle fun _ hf=>hf.elim,fun o y hy=>?_,fun o1 o2 y1 y2 b h1 h2 h3 h4=>?_,fun o y b hy hb'=>?_,CL,hos.trans h.os,ht.trans h.tape,hout.trans h.output,B0e h.grown hsz,fun b h1 h2=>?_,Sets.le_trans h.sub hS,fun b o hs=>?_,h.su,h.hold⟩
 ·rw[af.dQ (.inl rfl)] at hy
  by_cases e:o=aO
  ·subst e;simp at hy;subst hy;exact⟨bs',he,hst,rfl⟩
  ·simp[e] at hy
   refine(h.cn o y hy).vH hk hle (fun e'=>absurd e' e) (fun hf=>hf) (fun _ hf=>hf.elim) (fun b hb'=>hb b (h.own o y b hy hb').2 (hnf o y b e hy hb')) fun b off hb' hs=>?_
   rcases Bs b off hs with h1 | h1 | h1
   ·exact h1
   ·exact absurd h1 (hnf o y b e hy hb')
   ·have:=(h.own o y b hy hb').2;omega
 ·rw[af.dQ (.inl rfl)] at h1 h2
  have RO:∀{o:Nat} {y:aE} {b:Nat},o≠aO→σ.obj o=some y→bw { ρ with S:=S',an:=bf } o y b→bf b→False:=by
   intro o y b hne hy hb' hf'
   rw[jj o y hne hy] at hb'
   rcases(hf b hf').1 with h5 | h5
   ·exact hnf o y b hne hy hb' h5
   ·have:=(h.own o y b hy hb').2;omega
  by_cases e1:o1=aO <;> by_cases e2:o2=aO
  ·rw[e1,e2]
  ·subst e1;simp at h1;subst h1
   simp[e2] at h2
   exact(RO e2 h2 h4 h3).elim
  ·subst e2;simp at h2;subst h2
   simp[e1] at h1
   exact(RO e1 h1 h3 h4).elim
  ·simp[e1] at h1;simp[e2] at h2
   rw[jj o1 y1 e1 h1] at h3
   rw[jj o2 y2 e2 h2] at h4
   exact h.inj o1 o2 y1 y2 b h1 h2 h3 h4
 ·rw[af.dQ (.inl rfl)] at hy
  by_cases e:o=aO
  ·subst e;simp at hy;subst hy
   obtain⟨h1,h2⟩:=hf b hb'
   refine⟨.inr ?_,h2⟩
   rcases h1 with h1 | h1
   ·exact(Ng b h1).1
   ·exact .inl (B0e h.grown h1)
  ·simp[e] at hy
   rw[jj o y e hy] at hb'
   obtain⟨h1,h2⟩:=h.own o y b hy hb'
   exact⟨h1,by omega⟩
 ·refine(hb b (by have:=h.grown;omega) fun hf=>?_).trans (h.old b h1 h2)
  rcases(Ng b hf).1 with h3 | h3
  ·omega
  ·exact h2 h3
 ·rcases Bs b o hs with h1 | h1 | h1
  ·exact h.new b o h1
  ·rcases(Ng b h1).1 with h3 | h3
   ·exact .inr (.inl h3)
   ·exact .inr (.inr h3)
  ·exact .inr (.inl (B0e h.grown h1))

end
end

section
noncomputable section

inductive Out where
 | ret (d:D)
 | dI (d:D)

def Out.ends (w':World)(S':Sets)(v:Value):Out→Ending→Prop
 | .ret d,e=>e=.returned v∧aZ w' S' v d
 | .dI d,e=>e=.panicked [{ v,recovered:=false }]∧aZ w' S' v d

def oT (w:World)(S:Sets)(an:Nat→Prop):Prop:=∀l rec,S.hold l=some rec→w.heap[l]? = some (.loop rec)∧¬an l

theorem bE.ju {w0 w:World}{X:gB}{a:Act}{σ:af}{env:List D}{ρ:cr}(h:bE w0 X w a σ env ρ){cf:bV}{x:E}(bW:σ.obj aO=some (.store cf x)):oT w ρ.S ρ.an:=by
 intro l rec hl
 have hl':X.S.hold l=some rec:=by rw[←h.sub.hold];exact hl
 obtain⟨h1,h2,h3⟩:=h.hold l rec hl'
 have hlt:l<w0.heap.size:=(A0h.1 h1).1
 refine⟨(h.old l hlt h2).trans h1,fun hf=>?_⟩
 rcases(h.own aO _ l bW hf).1 with g | g | g
 ·exact h3 g.2
 ·omega
 ·exact h2 g

def eD (P:Program)(f:FuncId)(h:D)(ds:List D)(o:Out):Prop:=
 ∀(w:World) (S:Sets) (an:Nat→Prop) (bs:List D) (vs:Array Value),h=.st bs→ck w S an bs→oT w S an→(∀b,an b→b<w.heap.size)→(∀b o,S b o→b<w.heap.size)→vs.size=ds.length→(∀(i:Nat) (v:Value) (x:D),vs[i]? = some v→ds[i]? = some x→aZ w S v x) →
  Calls P f vs w fun e w'=>∃(v:Value) (S':Sets),o.ends w' S' v e∧Uz w.heap.size w w'∧S≤S'∧S'.n=S.n∧(∀b o,S' b o→S b o∨w.heap.size≤b)∧∀b o,S' b o→b<w'.heap.size

abbrev aU (P:Program)(f:FuncId)(h:D)(ds:List D)(d:D):Prop:=eD P f h ds (.ret d)

theorem eD.x8 {P:Program}{f:FuncId}{ds:List D}{o:Out}(h:eD P f (.st []) ds o)(hds:dH ds=true)(bs:List D):eD P f (.st bs) ds o:=by
 intro w S an nF vs hb hst dF hfl hS hvl hrd
 let S0:Sets:={ mem:=S.mem,loc:=fun _=>0,n:=0,cap:=fun _=>0 }
 have yV:ck w S0 (fun _=>False) []:=⟨rfl,fun i e sz cs hi=>by simp at hi,fun b off hf=>hf.elim,fun i bH hi=>by simp at hi,fun i j x y hi=>by simp at hi,fun i z hi=>by simp at hi⟩
 refine(h w S0 (fun _=>False) [] vs rfl yV (fun l rec hl=>by cases hl) (fun _ hf=>hf.elim) hS hvl fun i v x hv hx=>(hrd i v x hv hx).free (fun _ _ h=>h) (fc hds hx)).mono ?_
 rintro e w' ⟨v,S',c_,hb,hle,FE,hnew,hlt⟩
 refine⟨v,{ S with mem:=S'.mem },?_,hb,⟨hle.mem,A0m _,fun _ _=>rfl,fun _ _=>rfl,rfl,fun _ _=>rfl⟩,rfl,hnew,hlt⟩
 have hh:∀l,S'.hold l=none:=fun l=>by rw[hle.hold]
 cases o with
 | ret d=>exact⟨c_.1,c_.2.x8 (fun _ _ h=>h) FE hh⟩
 | dI d=>exact⟨c_.1,c_.2.x8 (fun _ _ h=>h) FE hh⟩

def bC (P:Program)(f:FuncId)(h:D)(ds:List D)(o:Out)(h':D):Prop:=
 ∀(w:World) (S:Sets) (an:Nat→Prop) (bs:List D) (vs:Array Value),h=.st bs→ck w S an bs→oT w S an→(∀b,an b→b<w.heap.size)→(∀b o,S b o→b<w.heap.size)→vs.size=ds.length→(∀(i:Nat) (v:Value) (x:D),vs[i]? = some v→ds[i]? = some x→aZ w S v x) →
  Calls P f vs w fun e w'=>∃(v:Value) (S':Sets) (bf:Nat→Prop) (bs':List D),o.ends w' S' v e∧h'=.st bs'∧ck w' S' bf bs'∧bp S w w'∧S≤S'∧w'.os=w.os∧TL w' w∧w'.output=w.output∧w.heap.size≤w'.heap.size ∧
   (∀b,b<w.heap.size→¬an b→w'.heap[b]? = w.heap[b]?)∧(∀b,bf b→(an b∨w.heap.size≤b)∧b<w'.heap.size)∧(∀b o,S' b o→S b o∨an b∨w.heap.size≤b)∧∀b o,S' b o→b<w'.heap.size

abbrev bt (P:Program)(f:FuncId)(h:D)(ds:List D)(d h':D):Prop:=bC P f h ds (.ret d) h'

def sk (P:Program)(y:D)(st:D)(ds:List D)(b:Bool)(cG:D):Prop:=
 ∀(w:World) (S:Sets) (an:Nat→Prop) (bs:List D) (vs:Array Value) (yv:Value),st=.st bs→ck w S an bs→oT w S an→(∀b,an b→b<w.heap.size)→(∀b o,S b o→b<w.heap.size)→aZ w S yv y→vs.size=ds.length→(∀(i:Nat) (v:Value) (x:D),vs[i]? = some v→ds[i]? = some x→aZ w S v x) →
  ∃(l:Nat) (f:FuncId) (tmps:Array Value) (assign body:Code),yv=.func (.yield l) #[] #[]∧(Instr.yield l vs).run P w=.ok (.round l f tmps assign body) w∧RoundIn Fence.wide 0 P l f tmps assign body w fun e w'=>∃(S':Sets) (bf:Nat→Prop) (bs':List D),e=.returned (.bool b)∧cG=.st bs'∧ck w' S' bf bs'∧bp S w w'∧S≤S'∧w'.os=w.os∧TL w' w∧w'.output=w.output∧w.heap.size≤w'.heap.size ∧
   (∀b,b<w.heap.size→¬an b→w'.heap[b]? = w.heap[b]?)∧(∀b,bf b→(an b∨w.heap.size≤b)∧b<w'.heap.size)∧(∀b o,S' b o→S b o∨an b∨w.heap.size≤b)∧∀b o,S' b o→b<w'.heap.size

abbrev nI (P:Program)(y:D)(st:D)(ds:List D)(cG:D):Prop:=sk P y st ds true cG

inductive Bind where
 | ev (x:E)
 | call (act:List (E×Bool)) (f:FuncId) (h:E) (args:List E) (rs:List Bool)
 | bA (act:List (E×Bool)) (f:FuncId) (h:E) (args:List E) (rs:List Bool)
 | ey (act:List (E×Bool)) (x h:E) (args:List E) (rs:List Bool)
 | dA (act:List (E×Bool)) (x h:E) (args:List E) (rs:List Bool)
 deriving Inhabited

def oP:List Bool→List D→Bool
 | [],[]=>true
 | b :: r,d :: s=>(!b||d.one)&&oP r s
 | _,_=>false

def D.fits (rs:List Bool)(d:D):Bool:=
 match rs with
 | [b]=>!b||d.one
 | rs=>match d with
  | .aM ds=>oP rs ds
  | _=>false

abbrev E.fO (x:E):E:=.m4 .dH x .nil .nil .nil

def aq (env:List D):List E→Option (List D)
 | []=>some []
 | x :: r=>(x.eval env).bind fun d=>(aq env r).map (d :: ·)

def bu (P:Program)(f:FuncId):Bool:=
 match P.funcs[f]? with
 | some fn => !(fn.name == "runtime.NumGoroutine") && fn.body.isSome
 | none=>false

def t_ (P:Program)(xd st:D)(ds:List D)(d h':D):Prop:=
 match xd with
 | .fn f us cs=>bu P f=true∧bt P f st (us++ds++cs) d h'
 | .yl l rec sl bF=>d=.bool true∧nI P (.yl l rec sl bF) st ds h'
 | .uc i rec sl bF=>∃b,d=.bool b∧sk P (.uc i rec sl bF) st ds b h'
 | _=>False

def aY (P:Program)(env:List D)(ix:Nat):Option Bind→Prop
 | none=>True
 | some (.ev x)=>∃d,x.eval env=some d∧env[ix]? = some d
 | some (.call act f h args rs)=>∃d,env[ix]? = some d∧(aQ env act→∃st ds,h.eval env=some st∧aq env args=some ds∧aU P f st ds d∧d.fits rs=true)
 | some (.bA act f h args rs)=>∃st d h',h.eval env=some st∧env[ix]? = some (.aM [d,h'])∧(aQ env act→∃ds,aq env args=some ds∧bt P f st ds d h'∧d.fits rs=true)∧(¬aQ env act→h'=st)
 | some (.ey act x h args rs)=>∃d,env[ix]? = some d∧(aQ env act→∃f us cs st ds,x.eval env=some (.fn f us cs)∧bu P f=true∧h.eval env=some st∧aq env args=some ds∧aU P f st (us++ds++cs) d∧d.fits rs=true)
 | some (.dA act x h args rs)=>∃st d h',h.eval env=some st∧env[ix]? = some (.aM [d,h'])∧(aQ env act→∃xd ds,x.eval env=some xd∧aq env args=some ds∧t_ P xd st ds d h'∧d.fits rs=true)∧(¬aQ env act→h'=st)

structure bZ where
 val:SV:=.bS
 cA:Option (Nat×aE):=none
 bind:Option Bind:=none
 deriving Inhabited

/-! ## types -/

def iy (P:Program)(t:TypeId):Option Bool:=(P.underlying t).map fun | .struct _=>true | .array _ _=>true | _=>false
def o6 (P:Program)(t:TypeId):Option Nat:=(P.info? t).map (·.size)

theorem uy {P:Program}{t:TypeId}{b:Bool}(h:iy P t=some b)(w:World):(isAgg t).run P w=.ok b w:=by
 unfold iy at h
 cases hu:P.underlying t with
 | none=>simp[hu] at h
 | some d=>
  simp only[hu,A0y,A0u] at h
  unfold isAgg
  rw[A0k,run_underlying hu w]
  subst h
  cases d <;> rfl

theorem run_sizeOf {P:Program}{t:TypeId}{n:Nat}(h:o6 P t=some n)(w:World):(sizeOf t).run P w=.ok n w:=by
 unfold o6 at h
 cases hi:P.info? t with
 | none=>simp[hi] at h
 | some i=>simp[hi] at h;simp[sizeOf,typeInfo,hi,h]

theorem fS {P:Program}{t:TypeId}{z:Value}(h:(P.info? t).bind (·.zero)=some z)(w:World):(zeroValue t).run P w=.ok z w:=by
 cases hi:P.info? t with
 | none=>simp[hi] at h
 | some i=>simp[hi] at h;simp[zeroValue,typeInfo,hi,h]

theorem fz (b off j:Nat):(⟨b,off,none⟩:Addr).add j=⟨b,off+j,none⟩:=by
 unfold Addr.add;split <;> simp_all

/-! ## constants -/

def D.ic (nz:Bool):List Value→Option (List D)
 | []=>some []
 | y :: r=>if plain y then(D.ic nz r).map (D.v y :: ·) else match y with
  | .slice none 0 0=>(D.ic nz r).map ((if nz then .cO else .a_ []) :: ·)
  | _=>none

def D.qS (y:Value):Option D:=
 match y with
 | .agg cs=>(D.ic false cs.toList).map .agg
 | y=>match D.ic false [y] with
  | some [d]=>some d
  | _=>none

theorem D.iV {w:World}{S:Sets}{nz:Bool}:∀{l:List Value} {ds:List D},D.ic nz l=some ds→l.length=ds.length∧∀(i:Nat) (v:Value) (d:D),l[i]? = some v→ds[i]? = some d→aZ w S v d∧d.one=true
 | [],ds,h=>by simp[D.ic] at h;subst h;simp
 | y :: r,ds,h=>by
  simp only[D.ic] at h
  split at h
  ·rename_i hp
   obtain⟨ds',h1,rfl⟩:=A0b.1 h
   obtain⟨hl,hr⟩:=D.iV h1
   refine⟨by simp[hl],fun i u d hu hd=>?_⟩
   cases i with
   | zero=>simp at hu hd;subst hu hd;exact⟨.v hp,rfl⟩
   | succ i=>exact hr i u d (by simpa using hu) (by simpa using hd)
  ·split at h
   ·obtain⟨ds',h1,rfl⟩:=A0b.1 h
    obtain⟨hl,hr⟩:=D.iV h1
    refine⟨by simp[hl],fun i u d hu hd=>?_⟩
    cases i with
    | zero=>
     simp only[B0d,A0u] at hu hd
     subst hu hd
     cases nz
     ·exact⟨.nil,rfl⟩
     ·exact⟨.cO,rfl⟩
    | succ i=>exact hr i u d (by simpa using hu) (by simpa using hd)
   ·cases h

theorem D.iG {w:World}{S:Sets}{v:Value}{d:D}(h:D.qS v=some d):aZ w S v d:=by
 have one:∀{v:Value} {d:D},(match D.ic false [v] with | some [d]=>some d | _=>none)=some d→aZ w S v d:=by
  intro v d h
  split at h
  ·rename_i d' dY
   cases h
   exact((D.iV (w:=w) (S:=S) dY).2 0 v d rfl rfl).1
  ·cases h
 cases v with
 | agg cs=>
  simp only[D.qS] at h
  obtain⟨ds,h1,rfl⟩:=A0b.1 h
  obtain⟨hl,hr⟩:=D.iV (w:=w) (S:=S) h1
  refine .agg (by simpa using hl) (fun i d hd=>?_) (fun i v d hv hd=>(hr i v d (by simpa using hv) hd).1)
  have hi:i<cs.toList.length:=by rw[hl];exact(A0a.1 hd).1
  exact(hr i _ d (A0f hi) hd).2
 | _=>exact one h

def k_ (v:Value):SV:=match D.qS v with | some d=>.e (.const d) d.one | none=>.bS

theorem zN {w:World}{ρ:cr}{env:List D}(v:Value):cu w ρ env v (k_ v):=by
 unfold k_
 split
 ·rename_i d hd;exact .e rfl (D.iG hd) id
 ·exact .bS

/-! ## from symbolic values to expressions,and to cells -/

mutual
def SV.toE:SV→Option E
 | .e x _=>some x
 | .own x _=>some x
 | .func (.func f) []=>some (.const (.fn f [] []))
 | .agg cs=>SV.toEs cs
 | .aM cs=>SV.toTs cs
 | _=>none
def SV.toEs:List SV→Option E
 | []=>some .nil
 | s :: r=>match s.toE,SV.toEs r with | some x,some y=>some (.cons x y) | _,_=>none
def SV.toTs:List SV→Option E
 | []=>some .ai
 | s :: r=>match s.toE,SV.toTs r with | some x,some y=>some (.ah x y) | _,_=>none
end

theorem aZ.So {w:World}{S:Sets}{v:Value}{d:D}(h:aZ w S v d)(hv:v.oneCell'=true):d.one=true:=by
 cases h <;> first | rfl | simp[Value.oneCell'] at hv

theorem D.gG {d:D}(h:d.one=true):d.cells=[d]:=by cases d <;> first | rfl | simp[D.one] at h

theorem D.Fj {d:D}(h:d.one=true)(cs:List D):D.cons d (.agg cs)=some (.agg (d :: cs)):=by
 cases d <;> first | rfl | simp[D.one] at h

mutual
theorem SV.toE_rd {w:World}{ρ:cr}{env:List D}:∀{sv:SV} {x:E} {v:Value},sv.toE=some x→cu w ρ env v sv→∃d,x.eval env=some d∧aZ w ρ.S v d
 | .e x s,y,v,h,hr=>by
  simp[SV.toE] at h;subst h
  cases hr with | e hx hd _=>exact⟨_,hx,hd⟩
 | .own x k,y,v,h,hr=>by
  simp[SV.toE] at h;subst h
  cases hr with | own hx hd _=>exact⟨_,hx,hd⟩
 | .agg cs,y,v,h,hr=>by
  simp only[SV.toE] at h
  cases hr with
  | @agg vs _ hl ho hh=>
   obtain⟨ds,he,eM,hd⟩:=SV.toEs_rd (vs:=vs.toList) h (by simpa using hl) (fun i v hv=>ho i v (by simpa using hv)) (fun i v c hv hc=>hh i v c (by simpa using hv) hc)
   refine⟨_,he,.agg (by simpa using eM) (fun i d dY=>?_) fun i v d hv dY=>(hd i v d (by simpa using hv) dY).1⟩
   have hi:i<vs.toList.length:=by rw[eM];exact(A0a.1 dY).1
   exact(hd i _ d (A0f hi) dY).2
 | .aM cs,y,v,h,hr=>by
  simp only[SV.toE] at h
  cases hr with
  | @aM vs _ hl hh=>
   obtain⟨ds,he,eM,hd⟩:=SV.toTs_rd (vs:=vs.toList) h (by simpa using hl) (fun i v c hv hc=>hh i v c (by simpa using hv) hc)
   exact⟨_,he,.aM (by simpa using eM) fun i v d hv dY=>hd i v d (by simpa using hv) dY⟩
 | .bS,_,_,h,_ | .addr _ _,_,_,h,_ | .av _ _ _ _,_,_,h,_ | .fT _ _,_,_,h,_ | .kF _,_,_,h,_ | .cond _ _,_,_,h,_=>by simp[SV.toE] at h
 | .func fn cs,y,v,h,hr=>by
  obtain⟨vs,rfl,hl,_⟩:=hr.lS
  cases fn with
  | func f=>
   cases cs with
   | nil=>
    simp only[SV.toE] at h
    cases h
    have:vs=#[]:=by simpa using hl
    subst this
    exact⟨_,rfl,.fn rfl rfl (by simp) (by simp)⟩
   | cons _ _=>simp[SV.toE] at h
  | _=>simp[SV.toE] at h
theorem SV.toEs_rd {w:World}{ρ:cr}{env:List D}:∀{cs:List SV} {x:E} {vs:List Value},SV.toEs cs=some x→vs.length=cs.length→(∀(i:Nat) (v:Value),vs[i]? = some v→v.oneCell'=true) →
  (∀(i:Nat) (v:Value) (c:SV),vs[i]? = some v→cs[i]? = some c→cu w ρ env v c)→∃ds,x.eval env=some (.agg ds)∧vs.length=ds.length∧∀(i:Nat) (v:Value) (d:D),vs[i]? = some v→ds[i]? = some d→aZ w ρ.S v d∧d.one=true
 | [],x,vs,h,hl,_,_=>by
  simp[SV.toEs] at h;subst h
  have:vs=[]:=A0w (by simpa using hl)
  subst this
  exact⟨[],rfl,rfl,by simp⟩
 | s :: r,x,vs,h,hl,ho,hh=>by
  match vs,hl with
  | v :: vs,hl=>
   simp only[SV.toEs] at h
   split at h
   ·rename_i y z hy hz
    cases h
    obtain⟨d,hd,hrd⟩:=SV.toE_rd hy (hh 0 v s rfl rfl)
    obtain⟨ds,he,eM,hds⟩:=SV.toEs_rd (vs:=vs) hz (by simpa using hl) (fun i v hv=>ho (i+1) v (by simpa using hv)) (fun i v c hv hc=>hh (i+1) v c (by simpa using hv) (by simpa using hc))
    have h1:=hrd.So (ho 0 v rfl)
    refine⟨d :: ds,by simp[E.eval,hd,he,D.Fj h1],by simp[eM],fun i v' d' hv dY=>?_⟩
    cases i with
    | zero=>simp at hv dY;subst hv dY;exact⟨hrd,h1⟩
    | succ i=>exact hds i v' d' (by simpa using hv) (by simpa using dY)
   ·cases h
theorem SV.toTs_rd {w:World}{ρ:cr}{env:List D}:∀{cs:List SV} {x:E} {vs:List Value},SV.toTs cs=some x→vs.length=cs.length →
  (∀(i:Nat) (v:Value) (c:SV),vs[i]? = some v→cs[i]? = some c→cu w ρ env v c)→∃ds,x.eval env=some (.aM ds)∧vs.length=ds.length∧∀(i:Nat) (v:Value) (d:D),vs[i]? = some v→ds[i]? = some d→aZ w ρ.S v d
 | [],x,vs,h,hl,_=>by
  simp[SV.toTs] at h;subst h
  have:vs=[]:=A0w (by simpa using hl)
  subst this
  exact⟨[],rfl,rfl,by simp⟩
 | s :: r,x,vs,h,hl,hh=>by
  match vs,hl with
  | v :: vs,hl=>
   simp only[SV.toTs] at h
   split at h
   ·rename_i y z hy hz
    cases h
    obtain⟨d,hd,hrd⟩:=SV.toE_rd hy (hh 0 v s rfl rfl)
    obtain⟨ds,he,eM,hds⟩:=SV.toTs_rd (vs:=vs) hz (by simpa using hl) (fun i v c hv hc=>hh (i+1) v c (by simpa using hv) (by simpa using hc))
    refine⟨d :: ds,by simp[E.eval,hd,he,D.ah],by simp[eM],fun i v' d' hv dY=>?_⟩
    cases i with
    | zero=>simp at hv dY;subst hv dY;exact hrd
    | succ i=>exact hds i v' d' (by simpa using hv) (by simpa using dY)
   ·cases h
end

def SV.split (n ix:Nat):SV→Option (List SV×Option Bind)
 | .agg cs=>if cs.length=n then some (cs,none) else none
 | .e (.const (.agg ds)) _=>if ds.length=n∧ds.all (·.one)=true then some (ds.map fun d=>.e (.const d) true,none) else none
 | .e x _=>some ((List.range n).map fun i=>.e (.cell i (.sym ix)) true,some (.ev (.br n x)))
 | _=>none

theorem SV.LJ {P:Program}{w:World}{ρ:cr}{env:List D}{n ix:Nat}{sv:SV}{cs:List SV}{b:Option Bind}{v:Value}(h:sv.split n ix=some (cs,b))(hb:aY P env ix b)(hr:cu w ρ env v sv) :
  ∃vs:Array Value,v=.agg vs∧vs.size=n∧cs.length=n∧(∀(i:Nat) (v:Value),vs[i]? = some v→v.oneCell'=true)∧∀(i:Nat) (v:Value) (c:SV),vs[i]? = some v→cs[i]? = some c→cu w ρ env v c:=by
 unfold SV.split at h
 split at h
 ·rename_i cs'
  split at h
  ·rename_i hl
   cases h
   cases hr with
   | agg hl' ho hh=>exact⟨_,rfl,by omega,hl,ho,hh⟩
  ·cases h
 ·rename_i ds s
  split at h
  ·rename_i hl
   cases h
   cases hr with
   | e hx hd _=>
    simp[E.eval] at hx
    subst hx
    cases hd with
    | agg hl' ho hh=>
     refine⟨_,rfl,by omega,by simp[hl.1],fun i v hv=>?_,fun i v c hv hc=>?_⟩
     ·have hi:i<ds.length:=by rw[←hl'];exact(A0h.1 hv).1
      exact(hh i v _ hv (A0f hi)).one (ho i _ (A0f hi))
     ·simp only[A0v,A0b] at hc
      obtain⟨d,hd,rfl⟩:=hc
      exact .e rfl (hh i v d hv hd) fun _=>ho i d hd
  ·cases h
 ·rename_i x s hne
  cases h
  obtain⟨d,hd,he⟩:=hb
  cases hr with
  | e hx hrd _=>
   simp only[E.eval,hx,A0d] at hd
   cases hrd with
   | @agg vs ds hl' ho hh=>
    simp only[D.br] at hd
    split at hd
    ·rename_i hl
     cases hd
     refine⟨_,rfl,by omega,by simp,fun i v hv=>?_,fun i v c hv hc=>?_⟩
     ·have hi:i<ds.length:=by rw[←hl'];exact(A0h.1 hv).1
      exact(hh i v _ hv (A0f hi)).one (ho i _ (A0f hi))
     ·have hi:i<ds.length:=by rw[←hl'];exact(A0h.1 hv).1
      have tC:c=.e (.cell i (.sym ix)) true:=by
       simp only[A0v,A0b] at hc
       obtain⟨j,hj,rfl⟩:=hc
       have:=A0a.1 hj
       simp at this
       rw[←this.2]
      subst tC
      exact .e (d:=ds[i]) (by simp[E.eval,he,D.cell,D.cells,hi]) (hh i v _ hv (A0f hi)) fun _=>ho i _ (A0f hi)
    ·cases hd
   | _=>simp[D.br] at hd
 ·cases h

end
end

section
noncomputable section

def fp (P:Program):Nat→List Field→Option (List Nat)
 | _,[]=>some []
 | i, f :: fs => if f.offset = i ∧ f.name ≠ "_" then (match P.underlying f.type with
  | some (.int _)=>(fp P (i+1) fs).map (0 :: ·)
  | some .bool=>(fp P (i+1) fs).map (1 :: ·)
  | some .string=>(fp P (i+1) fs).map (2 :: ·)
  | _=>none) else none

def oO (P:Program)(t:TypeId):Option (List Nat):=
 match P.underlying t with
 | some (.struct fs)=>if P.stoodInHeld t=false∧P.eqGuardType P.depth t=false then fp P 0 fs.toList else none
 | _=>none

def kindOf (P:Program)(t:TypeId):Option Kd:=
 match P.underlying t with
 | some (.int _)=>some .int
 | some .bool=>some .bool
 | some .string=>some .str
 | some (.pointer _)=>some .ptr
 | some (.map _ _)=>some .mp
 | some (.struct _)=>(oO P t).map .agg
 | _=>none

def SV.cellsOf (agg:Bool)(n ix:Nat)(obj:Nat→Option aE)(sv:SV):Option (List SV×Option Bind):=
 if agg then sv.split n ix else match sv with
  | .e x true=>some ([.e x true],none)
  | .e x false=>some ([.e x true],some (.ev (.aV x)))
  | .kF o=>match obj o with
   | some (.row _ _)=>some ([.kF o],none)
   | _=>none
  | .addr o off=>some ([.addr o off],none)
  | .av o i sz off=>some ([.av o i sz off],none)
  | .fT x off=>some ([.fT x off],none)
  | .own x k=>some ([.own x k],none)
  | .func fn cs=>some ([.func fn cs],none)
  | _=>none

def Ii (P:Program)(t:TypeId):Option (List SV):=((P.info? t).bind (·.zero)).map fun z=>z.cells.toList.map k_

def UT (obj:Nat→Option aE):E:=
 match obj aO with
 | some (.store _ h)=>h
 | _=>.const (.st [])

def Bj (P:Program)(t:TypeId)(x:SV)(obj:Nat→Option aE)(ix:Nat):Option bZ:=
 (iy P t).bind fun agg=>(o6 P t).bind fun n=>
 match x with
 | .addr ob off=>match obj ob with
  | some (.box cs)=>if agg then(if off+n≤cs.length then some { val:=.agg ((cs.drop off).take n) } else none) else(cs[off]?).map fun c=>{ val:=c }
  | _=>none
 | .av ob i sz off=>match obj ob with
  | some (.row l sz')=>if sz≠sz' then none else if agg then(if off=0∧n=sz then some { val:=.e (.sym ix) false,bind:=some (.ev (.br n (.idx l i))) } else none)
   else some { val:=.e (.sym ix) true,bind:=some (.ev (.cell off (.idx l i))) }
  | _=>none
 | .fT x off=>if agg then(if off=0 then some { val:=.e (.sym ix) false,bind:=some (.ev (.br n x)) } else some { val:=.e (.sym ix) false,bind:=some (.ev (.cells off n x)) })
   else some { val:=.e (.sym ix) true,bind:=some (.ev (.cell off x)) }
 | .e p _=>some { val:=.e (.sym ix) (!agg),bind:=some (.ev (.ld agg n (UT obj) p)) }
 | _=>none

def uK (P:Program)(t:TypeId)(x y:SV)(obj:Nat→Option aE)(ix:Nat):Option bZ:=
 (iy P t).bind fun agg=>(o6 P t).bind fun n=>
 match x with
 | .addr ob off=>match obj ob with
  | some (.box cs)=>(y.cellsOf agg n ix obj).bind fun(ys,b)=>if off+ys.length≤cs.length∧ys.length=n then some { cA:=some (ob,.box (cs.take off++ys++cs.drop (off+ys.length))),bind:=b } else none
  | _=>none
 | .av ob i sz off=>match obj ob with
  | some (.row l sz')=>if sz≠sz' then none else(match agg,y with
   | false,.e y' true=>if n=1 then some { cA:=some (ob,.row (.sym ix) sz'),bind:=some (.ev (.set l i off y')) } else none
   | false,.e y' false=>if n=1 then some { cA:=some (ob,.row (.sym ix) sz'),bind:=some (.ev (.set l i off (.aV y'))) } else none
   | true,y=>y.toE.map fun y'=>{ cA:=some (ob,.row (.sym ix) sz'),bind:=some (.ev (.set l i off (.br n y'))) }
   | _,_=>none)
  | _=>none
 | .e p _=>match obj aO,y.toE with
  | some (.store cf h),some y'=>if cf.ro then none else some { cA:=some (aO,.store cf (.sym ix)),bind:=some (.ev (.eY n h p y')) }
  | _,_=>none
 | _=>none

def rK (P:Program)(s:TypeId)(x:SV)(f:Nat):Option bZ:=
 match P.underlying s with
 | some (.struct fs)=>(fs[f]?).bind fun fd=>(o6 P fd.type).bind fun n=>if n=0 then none else match x with
  | .addr ob off=>some { val:=.addr ob (off+fd.offset) }
  | .av ob i sz off=>some { val:=.av ob i sz (off+fd.offset) }
  | .fT x off=>some { val:=.fT x (off+fd.offset) }
  | _=>none
 | _=>none

def Cl (P:Program)(s:TypeId)(x:SV)(f ix:Nat):Option bZ:=
 match P.underlying s,x with
 | some (.struct fs),.e p _=>(fs[f]?).bind fun fd=>(o6 P fd.type).bind fun n=>if n=0 then none else some { val:=.e (.sym ix) true,bind:=some (.ev (.aD fd.offset p)) }
 | _,_=>none

def jT (P:Program)(t:TypeId)(x i:SV)(obj:Nat→Option aE)(ix:Nat):Option bZ:=
 match P.underlying t,i.toE with
 | some (.slice e),some i'=>(o6 P e).bind fun n=>match x with
  | .kF ob=>match obj ob with
   | some (.row l sz)=>if sz=n then some { val:=.av ob i' n 0,bind:=some (.ev (.idx l i')) } else none
   | _=>none
  | x=>x.toE.map fun l=>{ val:=.e (.sym ix) true,bind:=some (.ev (.av n l i')) }
 | some (.array len e),some i'=>(o6 P e).bind fun n=>x.toE.map fun p=>{ val:=.e (.sym ix) true,bind:=some (.ev (.m4 (.iL len n) p i' .nil .nil)) }
 | _,_=>none

def SH (x:SV)(ix:Nat):Option bZ:=
 match x with
 | .addr o off=>some { val:=.addr o off }
 | .av o i sz off=>some { val:=.av o i sz off }
 | .func fn cs=>(match fn with | .method _=>none | _=>some { val:=.func fn cs })
 | .fT x off=>some { val:=.fT x off }
 | .e x _=>some { val:=.e (.sym ix) true,bind:=some (.ev (.nn x)) }
 | _=>none

def uS:SV→Bool
 | .e (.const (.v (.pointer none))) _=>true
 | _=>false

def Cz:SV→Bool
 | .addr _ _ | .av _ _ _ _ | .fT _ _=>true
 | _=>false

def SN (P:Program)(op:BinOp)(t:TypeId)(x y:SV)(ix:Nat):Option bZ:=
 if kindOf P t=some .ptr∧((Cz x=true∧uS y=true)∨(uS x=true∧Cz y=true)) then
  (match op with
   | .eql=>some { val:=.e (.const (.v (.bool false))) true }
   | .neq=>some { val:=.e (.const (.v (.bool true))) true }
   | _=>none)
 else match kindOf P t,x.toE,y.toE with
 | some kd,some x',some y'=>some { val:=.e (.sym ix) true,bind:=some (.ev (.bin op kd x' y')) }
 | _,_,_=>none

def lun (op:UnOp)(x:SV)(ix:Nat):Option bZ:=x.toE.map fun x'=>{ val:=.e (.sym ix) true,bind:=some (.ev (.un op x')) }

def Mw (P:Program)(src dst:TypeId)(x:SV)(ix:Nat):Option bZ:=
 match P.underlying src,P.underlying dst with
 | some _,some (.int k)=>x.toE.map fun x'=>{ val:=.e (.sym ix) true,bind:=some (.ev (.conv k x')) }
 | _,_=>none

def yH (x:SV)(i ix:Nat):Option bZ:=
 match x with
 | .aM cs=>(cs[i]?).map fun c=>{ val:=c }
 | .e y _=>some { val:=.e (.sym ix) false,bind:=some (.ev (.au i y)) }
 | _=>none

def Cu (P:Program)(t:TypeId)(dst:Option Tmp):Option bZ:=
 match dst,Ii P t with
 | some d,some cs=>some { val:=.addr d 0,cA:=some (d,.box cs) }
 | _,_=>none

def GS (P:Program)(t:TypeId)(x:SV)(dst:Option Tmp)(obj:Nat→Option aE)(ix:Nat):Option bZ:=
 match dst,iy P t,o6 P t with
 | some d,some agg,some n=>(x.cellsOf agg n ix obj).map fun(cs,b)=>{ val:=.addr d 0,cA:=some (d,.box cs),bind:=b }
 | _,_,_=>none

def JW (P:Program)(t:TypeId)(x:SV)(obj:Nat→Option aE)(ix:Nat):Option bZ:=
 match P.underlying t with
 | some (.slice _)=>(match x with
  | .kF ob=>match obj ob with
   | some (.row l _)=>some { val:=.e (.sym ix) true,bind:=some (.ev (.bD l)) }
   | _=>none
  | x=>x.toE.map fun l=>{ val:=.e (.sym ix) true,bind:=some (.ev (.bD l)) })
 | some .string=>x.toE.map fun l=>{ val:=.e (.sym ix) true,bind:=some (.ev (.fP l)) }
 | _=>none


/-! ## soundness -/

def cX (P:Program)(o:Oper)(a:Act)(w:World)(w0:World)(X:gB)(σ':af)(env:List D):Prop:=
 ∀Q,o.uponIn Fence.wide 0 P a (fun a' w'=>∃ρ',bE w0 X w' a' σ' env ρ') Q ((execOp a.eval o).run P w)

def FW (r:Option Nat):Fence:={ Fence.wide with round:=r }

def qv (o:Oper):Bool:=match o.op with | .defer _=>false | _=>true

theorem C0 {r:Option Nat}{n:Nat}{P:Program}{f:FuncId}{args:Array Value}{w:World}{R:Ending→World→Prop}:CallsIn (FW r) n P f args w R↔Calls P f args w R:=callsIn_wide

theorem Lp {P:Program}{o:Oper}{a:Act}{r:Option Nat}{n:Nat}{K K':Act→World→Prop}{Q:Exit→Act→World→Prop}{x:Result Next}(h:o.uponIn Fence.wide 0 P a K Q x)(hK:∀a w,K a w→K' a w):o.uponIn (FW r) n P a K' Q x:=by
 cases x with
 | ok x w'=>
  cases x with
  | value v=>exact hK _ _ h
  | skip=>exact hK _ _ h
  | defer d=>exact hK _ _ h
  | enter f args=>
   refine⟨fun e=>(by cases e),C0.2 ((callsIn_wide.1 h.2).mono fun e w'' he=>?_)⟩
   cases e <;> first | exact hK _ _ he | exact he
  | row row args=>exact⟨fun e=>(by cases e),fun c cs _=>let ⟨v,w'',g,s⟩:=h.2 c cs (room_wide _);⟨v,w'',hK _ _ g,s⟩⟩
  | round l f tmps assign body=>
   refine⟨fun e=>(by cases e),h.2.1,fun c cs _=>?_⟩
   obtain⟨e,w'',g,s⟩:=h.2.2 c cs (room_wide _)
   refine⟨e,w'',?_,s⟩
   cases e <;> first | exact hK _ _ g | exact g
  | _=>exact h.elim
 | halt x w'=>
  cases x <;> exact h

theorem uj {P:Program}{o:Oper}{a:Act}{K K':Act→World→Prop}{Q:Exit→Act→World→Prop}{x:Result Next}(h:o.uponIn Fence.wide 0 P a K Q x)(hK:∀a w,K a w→K' a w):o.uponIn Fence.wide 0 P a K' Q x:=Lp (r:=none) (n:=0) h hK

theorem fN {P:Program}{o:Oper}{a:Act}{w:World}{r:Option Nat}{n:Nat}{K K':Act→World→Prop}{Q:Exit→Act→World→Prop}(hd:qv o=true)(h:o.uponIn Fence.wide 0 P a K Q ((execOp a.eval o).run P w))(hK:∀a w,K a w→K' a w):o.wpIn (FW r) n P a w K' Q:=by
 refine⟨fun _ _=>trivial,?_⟩
 rw[Oper.semAt_plain (FW r) _ _ (fun c hc=>by rw[qv,hc] at hd;cases hd)]
 exact Lp h hK

theorem bq {P:Program}{o:Oper}{a:Act}{w w' w0:World}{X:gB}{σ':af}{env:List D}{ρ':cr}{v:Value}(hr:(execOp a.eval o).run P w=.ok (.value v) w')(h:bE w0 X w' (a.put o.dst v) σ' env ρ'):cX P o a w w0 X σ' env:=by
 intro Q
 rw[hr]
 exact⟨ρ',h⟩

theorem mX {P:Program}{o:Oper}{a:Act}{w w' w0:World}{X:gB}{σ':af}{env:List D}{ρ':cr}(hr:(execOp a.eval o).run P w=.ok .skip w')(h:bE w0 X w' (a.put o.dst undef) σ' env ρ'):cX P o a w w0 X σ' env:=by
 intro Q
 rw[hr]
 exact⟨ρ',h⟩

section
variable {P:Program} {w w0:World} {X:gB} {a:Act} {σ:af} {env:List D} {ρ:cr}

theorem eE {w:World}{g:Nat}{vs:Array Value}{ty:TypeId}{fr:Nat×Nat}(h:w.heap[g]? = some (.cells vs ty fr))(i:Nat):w.cell? ⟨g,i,none⟩=vs[i]?:=cell_of_row w g i vs ty fr h

theorem nX {t:TypeId}{n b off:Nat}{vs:List Value}(hg:iy P t=some true)(hn:o6 P t=some n)(hl:vs.length=n)(hc:∀(j:Nat) (v:Value),vs[j]? = some v→w.cell? ⟨b,off+j,none⟩=some v) :
  (loadVar t ⟨b,off,none⟩).run P w=.ok (.agg vs.toArray) w:=by
 have h:=run_loadCells_list (P:=P) w ⟨b,off,none⟩ vs fun j v hv=>by rw[fz];exact hc j v hv
 rw[hl] at h
 unfold loadVar
 simp[A0k,uy hg,run_sizeOf hn,h]

theorem nW {t:TypeId}{b off:Nat}{v:Value}(hg:iy P t=some false)(hc:w.cell? ⟨b,off,none⟩=some v):(loadVar t ⟨b,off,none⟩).run P w=.ok v w:=by
 unfold loadVar
 simp[A0k,uy hg,hc]

theorem Kv {o:Oper}{t:TypeId}{x:Operand}{b off:Nat}{v:Value}(ho:o.op=.load t x)(hx:a.eval x=.pointer (some ⟨b,off,none⟩))(hr:(loadVar t ⟨b,off,none⟩).run P w=.ok v w) :
  (execOp a.eval o).run P w=.ok (.value v) w:=by
 unfold execOp
 simp only[ho,hx,Instr.loadAt,Instr.sureAddr,A0k,A0n,A0e,hr]

theorem aZ.ia {S:Sets}{v:Value}{cs:List D}(h:aZ w S v (.ptr cs)):∃b off,v=.pointer (some ⟨b,off,none⟩)∧∀(j:Nat) (d:D),cs[j]? = some d→d.one=true∧S b (off+j)∧∃u,w.cell? ⟨b,off+j,none⟩=some u∧aZ w S u d:=by
 cases h with
 | @ptr b off _ val ho hS hw hr=>exact⟨b,off,rfl,fun j d hj=>⟨ho j d hj,hS j d hj,val j,hw j d hj,hr j d hj⟩⟩

theorem Oa {S:Sets}{b off:Nat}:∀{ds:List D},(∀(j:Nat) (d:D),ds[j]? = some d→d.one=true∧∃u,w.cell? ⟨b,off+j,none⟩=some u∧aZ w S u d) →
  ∃vs:List Value,vs.length=ds.length∧(∀(j:Nat) (v:Value),vs[j]? = some v→w.cell? ⟨b,off+j,none⟩=some v)∧∀(j:Nat) (v:Value) (d:D),vs[j]? = some v→ds[j]? = some d→aZ w S v d:=by
 intro ds
 induction ds generalizing off with
 | nil=>intro _;exact⟨[],rfl,by simp,by simp⟩
 | cons d r ih=>
  intro h
  obtain⟨_,u,hu,hrd⟩:=h 0 d rfl
  obtain⟨vs,hl,hc,hr⟩:=ih (off:=off+1) fun j d' hj=>by
   have:=h (j+1) d' (by simpa using hj)
   rwa [show off+(j+1)=off+1+j from by omega] at this
  refine⟨u :: vs,by simp[hl],fun j v hv=>?_,fun j v d' hv hd=>?_⟩
  ·cases j with
   | zero=>simp at hv;subst hv;exact hu
   | succ j=>rw[show off+(j+1)=off+1+j from by omega];exact hc j v (by simpa using hv)
  ·cases j with
   | zero=>simp at hv hd;subst hv hd;exact hrd
   | succ j=>exact hr j v d' (by simpa using hv) (by simpa using hd)

theorem iI {S:Sets} {t:TypeId} {b off n:Nat} {ds:List D} (hg:iy P t=some true) (hn:o6 P t=some n) (hl:n≤ds.length)
  (hc:∀(j:Nat) (d:D),ds[j]? = some d→d.one=true∧∃u,w.cell? ⟨b,off+j,none⟩=some u∧aZ w S u d):∃v,(loadVar t ⟨b,off,none⟩).run P w=.ok v w∧aZ w S v (.agg (ds.take n)):=by
 obtain⟨vs,hvl,hvc,S5⟩:=Oa hc
 refine⟨_,nX (vs:=vs.take n) hg hn (by simp;omega) (fun j v hv=>?_),.agg (by simp;omega) (fun i d hd=>?_) fun i v d hv hd=>?_⟩
 ·rw[B0c] at hv
  split at hv
  ·exact hvc j v hv
  ·cases hv
 ·rw[B0c] at hd
  split at hd
  ·exact(hc i d hd).1
  ·cases hd
 ·simp only[B0n,B0c] at hv hd
  split at hv
  ·rename_i hi;rw[if_pos hi] at hd;exact S5 i v d hv hd
  ·cases hv

theorem j8 {S:Sets}{t:TypeId}{b off:Nat}{d:D}(hg:iy P t=some false)(hc:∃u,w.cell? ⟨b,off,none⟩=some u∧aZ w S u d):∃v,(loadVar t ⟨b,off,none⟩).run P w=.ok v w∧aZ w S v d:=by
 obtain⟨u,hu,hr⟩:=hc
 exact⟨u,nW hg hu,hr⟩

theorem JB {ob:Nat}{l:E}{sz:Nat}(h:fI w ρ env ob (.row l sz)):∃es,l.eval env=some (.a_ es)∧∀(m:Nat) (e:D),es[m]? = some e→e.cells.length=sz ∧
  ∀(j:Nat) (d:D),e.cells[j]? = some d→d.one=true∧∃u,w.cell? ⟨ρ.bh ob,m*sz+j,none⟩=some u∧aZ w ρ.S u d:=by
 obtain⟨vs,ty,es,hh,hxl,hz,hvl,hr,_,_,_⟩:=h
 refine⟨es,hxl,fun m e he=>⟨hz m e he,fun j d hd=>?_⟩⟩
 obtain⟨h1,v,hv,hrd⟩:=hr m e j d he hd
 exact⟨h1,v,by rw[eE hh];exact hv,hrd⟩

theorem D.zT {d:D}{n:Nat}(h:d.cells.length=n):d.cells.take n=d.cells:=List.take_of_length_le (by omega)

theorem EM (h:bE w0 X w a σ env ρ){dh:D}(he:(UT σ.obj).eval env=some dh):∃bs,dh=.st bs∧(bs=[]∨ck w ρ.S ρ.an bs):=by
 unfold UT at he
 split at he
 ·rename_i cf x hx
  obtain⟨bs,h1,h2,_⟩:=h.cn _ _ hx
  rw[h1] at he
  cases he
  exact⟨bs,rfl,.inr h2⟩
 ·simp only[E.eval] at he
  cases he
  exact⟨[],rfl,.inl rfl⟩

theorem fB {bs:List D}{i:Nat}{b:TypeId×Nat×List D}(h:D.dJ (.st bs) i=some b):bs[i]? = some (.bh b.1 b.2.1 b.2.2):=by
 simp only[D.dJ] at h
 split at h
 ·rename_i e;cases h;exact e
 ·cases h

theorem Cn {S:Sets}{an:Nat→Prop}{t:TypeId}{n:Nat}{agg:Bool}{v:Value}{bs:List D}{dp d:D}(hg:iy P t=some agg)(hn:o6 P t=some n)(hp:aZ w S v dp)(hst:bs=[]∨ck w S an bs)(hd:D.ld agg n (.st bs) dp=some d) :
  ∃b off u,v=.pointer (some ⟨b,off,none⟩)∧(loadVar t ⟨b,off,none⟩).run P w=.ok u w∧aZ w S u d∧((!agg)=true→d.one=true):=by
 cases dp with
 | ptr cs=>
  obtain⟨b,f,mH,hc⟩:=hp.ia
  have tC:∀(j:Nat) (d:D),cs[j]? = some d→d.one=true∧∃u,w.cell? ⟨b,f+j,none⟩=some u∧aZ w S u d:=fun j d hj=>⟨(hc j d hj).1,(hc j d hj).2.2⟩
  cases agg with
  | true=>
   simp only[D.ld,if_true] at hd
   split at hd
   ·rename_i hle
    cases hd
    obtain⟨u,hrun,hrd⟩:=iI hg hn hle tC
    exact⟨b,f,u,mH,hrun,hrd,by simp⟩
   ·cases hd
  | false=>
   simp only[D.ld,B0f,if_false] at hd
   obtain⟨h1,h2⟩:=tC 0 d hd
   obtain⟨u,hrun,hrd⟩:=j8 (P:=P) hg h2
   exact⟨b,f,u,mH,hrun,hrd,fun _=>h1⟩
 | loc i off=>
  cases hp with
  | loc hi=>
  simp only[D.ld,A0c] at hd
  obtain⟨cells,hb,hd⟩:=hd
  have tC:∀(j:Nat) (d:D),(cells.drop off)[j]? = some d→d.one=true∧∃u,w.cell? ⟨S.loc i,off+j,none⟩=some u∧aZ w S u d:=by
   unfold D.vm at hb
   split at hb
   ·rename_i bh hb0
    cases hb
    have fX:=fB hb0
    rcases hst with rfl | hst
    ·simp at fX
    obtain⟨hf,vs,⟨_,hh,_⟩,hsz,hlen,hone,hr,jk⟩:=hst.cells i _ _ _ fX
    intro j d hj
    rw[B0o] at hj
    have hlt:off+j<vs.size:=A0s (A0a.1 hj).1 hlen
    have hrd:=hr (off+j) vs[off+j] d (by simp[hlt]) hj
    exact⟨hone (off+j) d hj,vs[off+j],by rw[eE hh];simp[hlt],hrd⟩
   ·unfold D.RE at hb
    simp only at hb
    split at hb
    ·rename_i g ty vs fX
     cases hb
     rcases hst with rfl | hst
     ·simp at fX
     obtain⟨_,⟨_,hh,qA⟩,_⟩:=hst.pV i _ fX rfl
     intro j d hj
     rw[B0o,A0v] at hj
     obtain⟨v,hv,rfl⟩:=A0b.1 hj
     refine⟨rfl,v,?_,.v (A0z.1 qA v (B0i hv))⟩
     rw[eE hh]
     simpa using hv
    ·cases hb
  cases agg with
  | true=>
   simp only[if_true] at hd
   split at hd
   ·rename_i hle
    cases hd
    obtain⟨u,hrun,hrd⟩:=iI hg hn (by simp;omega) tC
    exact⟨_,off,u,rfl,hrun,hrd,by simp⟩
   ·cases hd
  | false=>
   simp only[B0f,if_false] at hd
   obtain⟨h1,h2⟩:=tC 0 d (by simpa using hd)
   obtain⟨u,hrun,hrd⟩:=j8 (P:=P) hg h2
   exact⟨_,off,u,rfl,hrun,hrd,fun _=>h1⟩
 | _=>simp[D.ld] at hd

theorem Ec {o:Oper} {t:TypeId} {x:Operand} {sx:SV} {ix:Nat} {r:bZ} (ho:o.op=.load t x) (hl:Bj P t sx σ.obj ix=some r) (hx:cu w ρ env (a.eval x) sx) (h:bE w0 X w a σ env ρ) (hd:∀d,o.dst=some d→d<σ.tmps.length)
  (hb:aY P env ix r.bind):r.cA=none∧cX P o a w w0 X (σ.put o.dst r.val) env:=by
 unfold Bj at hl
 cases hg:iy P t with
 | none=>simp[hg] at hl
 | some agg=>
 cases hn:o6 P t with
 | none=>simp[hg,hn] at hl
 | some n=>
 simp only[hg,hn,A0d] at hl
 have fin:∀{b off:Nat} {v:Value} {sv:SV},a.eval x=.pointer (some ⟨b,off,none⟩)→(loadVar t ⟨b,off,none⟩).run P w=.ok v w→cu w ρ env v sv→cX P o a w w0 X (σ.put o.dst sv) env:=
  fun hx hr hs=>bq (Kv ho hx hr) (h.put hd hs)
 split at hl
 ·rename_i ob off
  split at hl
  ·rename_i cs bW
   obtain⟨vs,ty,hh,hlen,hone,hr,_⟩:=h.cn ob _ bW
   have mH:=hx.iN
   cases agg with
   | true=>
    simp only[if_true] at hl
    split at hl
    ·rename_i hle
     cases hl
     refine⟨rfl,fin mH (nX (vs:=(vs.toList.drop off).take n) hg hn (by simp[hlen];omega) fun j v hv=>?_) (.agg (by simp[hlen]) (fun i v hv=>?_) fun i v c hv hc=>?_)⟩
     ·rw[eE hh]
      rw[B0c] at hv
      split at hv
      ·simpa using hv
      ·cases hv
     ·simp only[B0n,B0c] at hv
      split at hv
      ·exact hone (off+i) v (by simpa using hv)
      ·cases hv
     ·simp only[B0n,B0c] at hv hc
      split at hv
      ·rename_i hi
       rw[if_pos hi] at hc
       exact hr (off+i) v c (by simpa using hv) (by simpa using hc)
      ·cases hv
    ·cases hl
   | false=>
    simp only[B0f,if_false,A0b] at hl
    obtain⟨c,hc,rfl⟩:=hl
    have hi:off<vs.size:=by rw[hlen];exact(A0a.1 hc).1
    exact⟨rfl,fin mH (nW (v:=vs[off]) hg (by rw[eE hh];simp[hi])) (hr off vs[off] c (by simp[hi]) hc)⟩
  ·cases hl
 ·rename_i ob i sz off
  split at hl
  ·rename_i l sz' bW
   obtain⟨es,hxl,iJ⟩:=JB (h.cn ob _ bW)
   split at hl
   ·cases hl
   rename_i hsz
   simp only[Decidable.not_not] at hsz
   subst hsz
   obtain⟨m,k,hi,mH⟩:=hx.lF
   cases agg with
   | true=>
    simp only[if_true] at hl
    split at hl
    ·rename_i hoff
     cases hl
     obtain⟨rfl,rfl⟩:=hoff
     obtain⟨d,he,bQ⟩:=hb
     simp only[E.eval,hxl,hi,A0d,D.idx] at he
     simp at he
     cases hem:es[m]? with
     | none=>simp[hem] at he
     | some e=>
     simp only[hem,A0d] at he
     obtain⟨hel,hec⟩:=iJ m e hem
     have hle:n≤e.cells.length:=by omega
     obtain⟨v,hrun,hrd⟩:=iI (off:=m*n+0) hg hn hle (fun j d hd=>by simpa using hec j d hd)
     cases e with
     | agg cs=>
      simp only[D.br] at he
      split at he
      ·rename_i dP
       cases he
       refine⟨rfl,fin mH hrun (.e (d:=.agg cs) (by simp[E.eval,bQ]) ?_ (by simp))⟩
       rw[D.zT hel] at hrd
       exact hrd
      ·cases he
     | _=>simp[D.br] at he
    ·cases hl
   | false=>
    simp only[B0f,if_false] at hl
    cases hl
    obtain⟨d,he,bQ⟩:=hb
    simp only[E.eval,hxl,hi,A0d,D.idx] at he
    simp at he
    cases hem:es[m]? with
    | none=>simp[hem] at he
    | some e=>
    simp only[hem,A0d,D.cell] at he
    obtain⟨hel,hec⟩:=iJ m e hem
    obtain⟨h1,h2⟩:=hec off d he
    obtain⟨v,hrun,hrd⟩:=j8 (P:=P) hg h2
    exact⟨rfl,fin mH hrun (.e (d:=d) (by simp[E.eval,bQ]) hrd fun _=>h1)⟩
  ·cases hl
 ·rename_i y off
  obtain⟨dy,hy,hrd⟩:=hx.pW
  obtain⟨b,f,mH,hc⟩:=hrd.ia
  have tC:∀(j:Nat) (d:D),(dy.cells.drop off)[j]? = some d→d.one=true∧∃u,w.cell? ⟨b,f+j,none⟩=some u∧aZ w ρ.S u d:=fun j d hj=>⟨(hc j d hj).1,(hc j d hj).2.2⟩
  cases agg with
  | true=>
   simp only[if_true] at hl
   split at hl
   ·rename_i hoff
    cases hl
    subst hoff
    obtain⟨d,he,bQ⟩:=hb
    simp only[E.eval,hy,A0d] at he
    cases dy with
    | agg cs=>
     simp only[D.br] at he
     split at he
     ·rename_i dP
      cases he
      have hle:n≤((D.agg cs).cells.drop 0).length:=by simp[D.cells];omega
      obtain⟨v,hrun,hrd⟩:=iI hg hn hle tC
      refine⟨rfl,fin mH hrun (.e (d:=.agg cs) (by simp[E.eval,bQ]) ?_ (by simp))⟩
      simpa[D.cells,←dP] using hrd
     ·cases he
    | _=>simp[D.br] at he
   ·rename_i hoff
    cases hl
    obtain⟨d,he,bQ⟩:=hb
    simp only[E.eval,hy,A0d] at he
    cases dy with
    | agg cs=>
     simp only[D.part] at he
     split at he
     ·rename_i dP
      cases he
      have hle:n≤((D.agg cs).cells.drop off).length:=by simp[D.cells];omega
      obtain⟨v,hrun,hrd⟩:=iI hg hn hle tC
      exact⟨rfl,fin mH hrun (.e (by simp[E.eval,bQ];rfl) hrd (by simp))⟩
     ·cases he
    | _=>simp[D.part] at he
  | false=>
   simp only[B0f,if_false] at hl
   cases hl
   obtain⟨d,he,bQ⟩:=hb
   simp only[E.eval,hy,A0d,D.cell] at he
   obtain⟨h1,h2⟩:=tC 0 d (by simpa using he)
   obtain⟨v,hrun,hrd⟩:=j8 (P:=P) hg h2
   exact⟨rfl,fin mH hrun (.e (d:=d) (by simp[E.eval,bQ]) hrd fun _=>h1)⟩
 ·rename_i p s
  cases hl
  obtain⟨dp,hp,hrd,_⟩:=hx.gj
  obtain⟨d,he,bQ⟩:=hb
  simp only[E.eval,hp,A0d,A0c] at he
  obtain⟨dh,hh,he⟩:=he
  obtain⟨bs,rfl,hst⟩:=EM h hh
  obtain⟨b,off,u,hv,hrun,CE,h1⟩:=Cn hg hn hrd hst he
  exact⟨rfl,fin hv hrun (.e (d:=d) (by simp[E.eval,bQ]) CE h1)⟩
 ·cases hl

end

end
end

section
noncomputable section
section
variable {P:Program} {w w0:World} {X:gB} {a:Act} {σ:af} {env:List D} {ρ:cr}

theorem aZ.yw {S:Sets}{v:Value}{es:List D}(h:aZ w S v (.a_ es)):∃ad n c,v=.slice ad n c∧n=es.length:=by
 cases h with
 | nil=>exact⟨_,_,_,rfl,rfl⟩
 | emp _=>exact⟨_,_,_,rfl,rfl⟩
 | a_ hl=>exact⟨_,_,_,rfl,hl⟩

theorem SV.zU {agg:Bool}{n ix:Nat}{sv:SV}{ys:List SV}{b:Option Bind}{v:Value}(ea:∀o x,σ.obj o=some x→fI w ρ env o x)(h:sv.cellsOf agg n ix σ.obj=some (ys,b))(hb:aY P env ix b)(hr:cu w ρ env v sv) :
  v.cells.size=ys.length∧(∀(i:Nat) (u:Value),v.cells[i]? = some u→u.oneCell'=true)∧∀(i:Nat) (u:Value) (c:SV),v.cells[i]? = some u→ys[i]? = some c→cu w ρ env u c:=by
 unfold SV.cellsOf at h
 cases agg with
 | true=>
  simp only[if_true] at h
  obtain⟨vs,rfl,h1,h2,h3,h4⟩:=SV.LJ (P:=P) h hb hr
  exact⟨by simp[Value.cells,h1,h2],h3,h4⟩
 | false=>
  simp only[B0f,if_false] at h
  have one:∀{sv:SV},v.oneCell'=true→cu w ρ env v sv→v.cells.size=[sv].length∧(∀(i:Nat) (u:Value),v.cells[i]? = some u→u.oneCell'=true)∧∀(i:Nat) (u:Value) (c:SV),v.cells[i]? = some u→[sv][i]? = some c→cu w ρ env u c:=by
   intro sv h1 hs
   have hc:v.cells=#[v]:=by cases v <;> first | rfl | simp[Value.oneCell'] at h1
   rw[hc]
   refine⟨rfl,fun i u hu=>?_,fun i u c hu tC=>?_⟩
   ·cases i with
    | zero=>simp at hu;subst hu;exact h1
    | succ i=>simp at hu
   ·cases i with
    | zero=>simp at hu tC;subst hu tC;exact hs
    | succ i=>simp at hu
  split at h
  ·rename_i x
   cases h
   obtain⟨d,hx,hd,h1⟩:=hr.gj
   exact one (hd.one (h1 rfl)) hr
  ·rename_i x
   cases h
   obtain⟨d,hx,hd,_⟩:=hr.gj
   obtain⟨d',he,_⟩:=hb
   simp only[E.eval,hx,A0d,D.aV] at he
   split at he
   ·rename_i h1
    exact one (hd.one h1) (.e hx hd fun _=>h1)
   ·cases he
  ·rename_i o
   split at h
   ·rename_i l sz ho
    cases h
    have hv:=hr.nT
    obtain⟨vs,ty,es,_,_,_,_,_,hval,_⟩:=ea o _ ho
    exact one (by rw[hv,hval];rfl) hr
   ·cases h
  ·cases h;exact one (by rw[hr.iN];rfl) hr
  ·cases h;obtain⟨_,_,_,hv⟩:=hr.lF;exact one (by rw[hv];rfl) hr
  ·cases h;obtain⟨_,_,hd⟩:=hr.pW;exact one (hd.one rfl) hr
  ·cases h;obtain⟨_,_,hd,_⟩:=hr.sP;exact one (hd.one rfl) hr
  ·cases h;obtain⟨_,hv,_⟩:=hr.lS;exact one (by rw[hv];rfl) hr
  ·cases h

theorem rW {o:Oper} {t:TypeId} {x y:Operand} {b off n:Nat} {cur:Array Value} {ty:TypeId} (ho:o.op=.store t x y) (hx:a.eval x=.pointer (some ⟨b,off,none⟩)) (hn:o6 P t=some n) (hl:(a.eval y).cells.size=n)
  (hone:∀(i:Nat) (u:Value),(a.eval y).cells[i]? = some u→u.oneCell'=true) (hh:w.heap[b]? = some (.cells cur ty (0,0))) (hfit:off+n≤cur.size) :
  (execOp a.eval o).run P w=.ok .skip (w.setRow b (cur.toList.take off++(a.eval y).cells.toList++cur.toList.drop (off+n)).toArray):=by
 have hst:=run_storeCells_at P b off ty (a.eval y).cells.toList 0 cur w hh (by simp[hl];omega) (fun v hv=>by
  obtain⟨i,hi⟩:=List.getElem?_of_mem hv
  exact hone i v (by simpa using hi))
 simp only[Nat.add_zero,B0j,hl] at hst
 unfold execOp
 simp only[ho,hx,Instr.storeAt,Instr.sureAddr,storeVar,A0k,A0n,A0e,run_sizeOf hn]
 simp[hl,hst]

theorem gP {α:Type}(cs ys:List α)(off:Nat)(h:off+ys.length≤cs.length)(i:Nat):(cs.take off++ys++cs.drop (off+ys.length))[i]? = if i<off then cs[i]? else if i<off+ys.length then ys[i-off]? else cs[i]?:=by
 have h1:(cs.take off).length=off:=by simp;omega
 split
 ·rename_i hi
  rw[B0b,A0j (by omega),B0c,if_pos hi]
 ·rename_i hi
  split
  ·rename_i hj
   rw[B0b,A0l (by omega),h1,A0j (by omega)]
  ·rename_i hj
   rw[A0l (by simp;omega),B0o]
   congr 1
   simp
   omega

theorem aZ.Fq {S:Sets}{v:Value}{d:D}(h:aZ w S v d)(ho:d.cells.all (·.one)=true):v.cells.size=d.cells.length∧(∀(i:Nat) (u:Value),v.cells[i]? = some u→u.oneCell'=true) ∧
  ∀(i:Nat) (u:Value) (c:D),v.cells[i]? = some u→d.cells[i]? = some c→aZ w S u c:=by
 have one:d.one=true→d.cells=[d]∧v.cells=#[v]∧v.oneCell'=true:=fun h1=>by
  have UU:=h.one h1
  exact⟨D.gG h1,by cases v <;> first | rfl | simp[Value.oneCell'] at UU,UU⟩
 by_cases h1:d.one=true
 ·obtain⟨e1,e2,e3⟩:=one h1
  rw[e1,e2]
  refine⟨rfl,fun j u hu=>?_,fun j u c hu hc=>?_⟩
  ·cases j with
   | zero=>simp at hu;subst hu;exact e3
   | succ j=>simp at hu
  ·cases j with
   | zero=>simp at hu hc;subst hu hc;exact h
   | succ j=>simp at hu
 ·cases h with
  | agg hl ho' hh=>
   refine⟨hl,fun j u hu=>?_,fun j u c hu hc=>hh j u c hu hc⟩
   rename_i vs ds
   have hj:j<ds.length:=by rw[←hl];exact(A0h.1 hu).1
   exact(hh j u _ hu (A0f hj)).one (ho' j _ (A0f hj))
  | aM hl hh=>simp[D.cells,D.one] at ho
  | _=>exact absurd rfl h1

theorem O3 {cf:bV} {hx y' px:E} {x y:Operand} {n ix:Nat} {o:Oper} {t:TypeId} {sy:SV} {sp:Bool} (ho:o.op=.store t x y) (hn:o6 P t=some n) (bW:σ.obj aO=some (.store cf hx)) (hro:cf.ro=false) (hp:cu w ρ env (a.eval x) (.e px sp)) (K4:sy.toE=some y') (hy:cu w ρ env (a.eval y) sy)
  (h:bE w0 X w a σ env ρ) (hd:∀d,o.dst=some d→d<σ.tmps.length) (hb:aY P env ix (some (.ev (.eY n hx px y')))):cX P o a w w0 X ((σ.setObj aO (some (.store cf (.sym ix)))).put o.dst .bS) env:=by
 obtain⟨dp,Rs,XR,_⟩:=hp.gj
 obtain⟨dy,Nh,adt⟩:=SV.toE_rd K4 hy
 obtain⟨bs,eO,hst,_⟩:=h.cn _ _ bW
 obtain⟨d,he,bQ⟩:=hb
 simp only[E.eval,Rs,Nh,eO,A0d] at he
 cases dp with
 | loc i off=>
  simp only[D.eY,A0c] at he
  obtain⟨bh,hcb,he⟩:=he
  split at he
  ·rename_i hc
   cases he
   obtain⟨La,zb,K_⟩:=hc
   have fX:=fB hcb
   obtain⟨hf,vs,⟨_,hh,hty⟩,hsz,hlen,hone,hr,jk⟩:=hst.cells i _ _ _ fX
   obtain⟨hy1,SZ,hy3⟩:=adt.Fq K_
   have wV:a.eval x=.pointer (some ⟨ρ.S.loc i,off,none⟩):=by
    generalize a.eval x=v at XR
    cases XR
    rfl
   have hrun:=rW (P:=P) (w:=w) ho wV hn (by omega) SZ hh (by omega)
   refine mX hrun ((h.setBlock (.inl rfl) bW (b0:=ρ.S.loc i) hf (by simpa[aE.ro] using hro) (by intro _ hh;exact hh) jk (fun b hb'=>setRow_other w _ b _ hb') rfl ⟨rfl,A0m _⟩ rfl (by simp) fun hk=>?_).put (by rw[af.aA];exact hd) .bS)
   have rO:(a.eval y).cells.toList.length=dy.cells.length:=by simpa using hy1
   refine⟨_,by simp only[E.eval];exact bQ,hst.set hk fX rfl (fun j x _ _ hne=>setRow_other w _ _ _ hne) (fun e sz cs hz=>?_) (fun bH hz=>by cases hz) (fun hz=>by cases hz),rfl⟩
   cases hz
   refine⟨_,⟨_,setRow_heap w _ _ _ _ _ hh,hty⟩,?_,?_,?_,?_⟩
   ·simp only[List.size_toArray,A0t,B0s,List.length_drop,B0j,rO]
    omega
   ·simp only[List.size_toArray,A0t,B0s,List.length_drop,B0j,rO]
    omega
   ·intro j d dY
    rw[←La] at dY
    rw[gP _ _ _ (by omega)] at dY
    split at dY
    ·exact hone j d dY
    ·split at dY
     ·exact A0z.1 K_ d (B0i dY)
     ·exact hone j d dY
   ·intro j v d hv dY
    rw[←La] at hv dY
    rw[gP _ _ _ (by omega)] at dY
    simp only[B0n] at hv
    rw[←rO] at hv dY
    rw[gP _ _ _ (by simp;omega)] at hv
    split at hv
    ·rename_i hj
     rw[if_pos hj] at dY
     exact(hr j v d (by simpa using hv) dY).keep hk (Sets.le_refl _)
    ·rename_i hj
     rw[if_neg hj] at dY
     split at hv
     ·rename_i hj2
      rw[if_pos hj2] at dY
      exact(hy3 _ v d (by simpa using hv) dY).keep hk (Sets.le_refl _)
     ·rename_i hj2
      rw[if_neg hj2] at dY
      exact(hr j v d (by simpa using hv) dY).keep hk (Sets.le_refl _)
  ·cases he
 | _=>simp[D.eY] at he

theorem Ce {o:Oper} {t:TypeId} {x y:Operand} {sx sy:SV} {ix:Nat} {r:bZ} (ho:o.op=.store t x y) (hl:uK P t sx sy σ.obj ix=some r) (hx:cu w ρ env (a.eval x) sx) (hy:cu w ρ env (a.eval y) sy) (h:bE w0 X w a σ env ρ)
  (hd:∀d,o.dst=some d→d<σ.tmps.length) (hm:∀ob y,σ.obj ob=some y→ob=aO∨ob<σ.mem.length) (hb:aY P env ix r.bind):∃ob z,r.cA=some (ob,z)∧(σ.obj ob).isSome∧r.val=.bS∧cX P o a w w0 X ((σ.setObj ob (some z)).put o.dst .bS) env:=by
 unfold uK at hl
 cases hg:iy P t with
 | none=>simp[hg] at hl
 | some agg=>
 cases hn:o6 P t with
 | none=>simp[hg,hn] at hl
 | some n=>
 simp only[hg,hn,A0d] at hl
 split at hl
 ·rename_i ob off
  split at hl
  ·rename_i cs bW
   obtain⟨⟨ys,b⟩,hcs,hl⟩:=A0c.1 hl
   simp only at hl
   split at hl
   ·rename_i hfit
    obtain⟨hfit,UK⟩:=hfit
    cases hl
    refine⟨ob,_,rfl,by simp[bW],rfl,?_⟩
    obtain⟨h1,h2,h3⟩:=SV.zU (P:=P) h.cn hcs hb hy
    obtain⟨vs,ty,hh,hlen,hone,hr,hS⟩:=h.cn ob _ bW
    have hrun:=rW (P:=P) (w:=w) ho hx.iN hn (by omega) h2 hh (by omega)
    refine mX hrun ((h.setBlock (hm ob _ bW) bW (b0:=ρ.bh ob) rfl rfl (by intro _ hh;exact hh) hS (fun b hb'=>setRow_other w _ b _ hb') rfl ⟨rfl,A0m _⟩ rfl (by simp) fun hk=>?_).put (by rw[af.aA];exact hd) .bS)
    have rO:(a.eval y).cells.toList.length=ys.length:=by simpa using h1
    refine⟨_,ty,setRow_heap w _ _ _ _ _ hh,?_,?_,?_,hS⟩
    ·simp only[List.size_toArray,A0t,B0s,List.length_drop,B0j,h1,hlen]
     omega
    ·intro i v hv
     rw[←UK,←rO] at hv
     simp only[B0n] at hv
     rw[gP _ _ _ (by simp[h1,hlen];omega)] at hv
     split at hv
     ·exact hone i v (by simpa using hv)
     ·split at hv
      ·exact h2 _ v (by simpa using hv)
      ·exact hone i v (by simpa using hv)
    ·intro i v c hv hc
     rw[←UK,←rO] at hv
     simp only[B0n] at hv
     rw[gP _ _ _ (by simp[h1,hlen];omega)] at hv
     rw[gP _ _ _ hfit] at hc
     rw[rO] at hv
     have hold:∀{v c},vs.toList[i]? = some v→cs[i]? = some c→cu (w.setRow (ρ.bh ob) (vs.toList.take off++(a.eval y).cells.toList++vs.toList.drop (off+n)).toArray) ρ env v c:=
      fun hv hc=>(hr i _ _ (by simpa using hv) hc).keep hk (cr.ql.refl ρ fun _=>False) fun _ hf=>hf.elim
     split at hv
     ·rename_i hi;rw[if_pos hi] at hc;exact hold hv hc
     ·rename_i hi
      rw[if_neg hi] at hc
      split at hv
      ·rename_i hj;rw[if_pos hj] at hc
       exact(h3 _ v c (by simpa using hv) hc).keep hk (cr.ql.refl ρ fun _=>False) fun _ hf=>hf.elim
      ·rename_i hj;rw[if_neg hj] at hc;exact hold hv hc
   ·cases hl
  ·cases hl
 ·rename_i ob i sz off
  split at hl
  ·rename_i l sz' bW
   split at hl
   ·cases hl
   rename_i hsz
   simp only[Decidable.not_not] at hsz
   subst hsz
   obtain⟨m,k,hi,mH⟩:=hx.lF
   have fin:∀{y':E} {dy:D},y'.eval env=some dy→aZ w ρ.S (a.eval y) dy→dy.cells.length=n→(a.eval y).cells.size=n→(∀(j:Nat) (u:Value),(a.eval y).cells[j]? = some u→u.oneCell'=true) →
     (∀(j:Nat) (u:Value) (d:D),(a.eval y).cells[j]? = some u→dy.cells[j]? = some d→d.one=true∧aZ w ρ.S u d)→aY P env ix (some (.ev (.set l i off y'))) →
     cX P o a w w0 X ((σ.setObj ob (some (.row (.sym ix) sz))).put o.dst .bS) env:=by
    intro y' dy Nh hrd eM dP La Np vL
    obtain⟨vs,ty,es,hh,hxl,hz,hvl,hr,hval,Ru,hS⟩:=h.cn ob _ bW
    obtain⟨dn,he,bQ⟩:=vL
    simp only[E.eval,hxl,hi,Nh,A0d,D.set] at he
    simp only[Int.natCast_nonneg,if_true,Int.toNat_natCast] at he
    cases hem:es[m]? with
    | none=>simp[hem] at he
    | some e=>
    simp only[hem,A0d,A0b] at he
    obtain⟨e',hput,rfl⟩:=he
    have hme:m<es.length:=(A0a.1 hem).1
    have hel:=hz m e hem
    have hnew:off+n≤sz∧e'.cells=e.cells.take off++dy.cells++e.cells.drop (off+n):=by
     unfold D.putAt at hput
     split at hput
     ·rename_i cs
      split at hput
      ·rename_i hle
       cases hput
       have hel:cs.length=sz:=hel
       show off+n≤sz∧cs.take off++dy.cells++cs.drop (off+dy.cells.length)=cs.take off++dy.cells++cs.drop (off+n)
       rw[eM] at hle ⊢
       exact⟨by omega,rfl⟩
      ·cases hput
     ·rename_i hna
      split at hput
      ·rename_i J8
       cases hput
       obtain⟨rfl,h1⟩:=J8
       have OR:e.cells=[e]:=by cases e <;> first | rfl | exact absurd rfl (hna _)
       have CK:=D.gG h1
       rw[OR] at hel
       rw[CK] at eM
       simp at hel eM
       subst eM
       rw[OR,CK]
       exact⟨by omega,by simp⟩
      ·cases hput
    obtain⟨hon,hcells⟩:=hnew
    have ajj:m*sz+sz≤es.length*sz:=by
     have:=Nat.mul_le_mul_right sz (show m+1≤es.length from hme)
     rwa [Nat.add_mul,Nat.one_mul] at this
    have hrun:=rW (P:=P) (w:=w) ho mH hn dP La hh (by omega)
    refine mX hrun ((h.setBlock (hm ob _ bW) bW (b0:=ρ.bh ob) rfl rfl (by intro _ hh;exact hh) hS (fun b hb'=>setRow_other w _ b _ hb') rfl ⟨rfl,A0m _⟩ rfl (by simp) fun hk=>?_).put (by rw[af.aA];exact hd) .bS)
    have rO:(a.eval y).cells.toList.length=n:=by simpa using dP
    have adI:∀i,(vs.toList.take (m*sz+off)++(a.eval y).cells.toList++vs.toList.drop (m*sz+off+n))[i]? = if i<m*sz+off then vs[i]? else if i<m*sz+off+n then(a.eval y).cells[i-(m*sz+off)]? else vs[i]?:=by
     intro i
     have:=gP vs.toList (a.eval y).cells.toList (m*sz+off) (by rw[rO];simp;omega) i
     rw[rO] at this
     simpa using this
    have aej:e'.cells.length=sz:=by
     rw[hcells]
     simp only[A0t,B0s,List.length_drop,eM,hel]
     omega
    refine⟨_,ty,es.set m e',setRow_heap w _ _ _ _ _ hh,by simp[E.eval,bQ],?_,?_,?_,by simpa using hval,by simpa using Ru,hS⟩
    ·intro j e2 hj
     by_cases Rw:m=j
     ·subst Rw
      simp[hme] at hj
      subst hj
      exact aej
     ·rw[B0l Rw] at hj
      exact hz j e2 hj
    ·simp only[List.size_toArray,A0t,B0s,List.length_drop,B0j,dP,hvl,List.length_set]
     omega
    ·intro j e2 c d hj hd2
     have ajE:c<sz:=by
      have uZ:=(A0a.1 hd2).1
      by_cases Rw:m=j
      ·subst Rw
       simp[hme] at hj
       subst hj
       omega
      ·rw[B0l Rw] at hj
       have:=hz j e2 hj;omega
     have hlt:∀{j},j<m→j*sz+sz≤m*sz:=fun {j} UP=>by
      have:=Nat.mul_le_mul_right sz (show j+1≤m from UP)
      rwa [Nat.add_mul,Nat.one_mul] at this
     have hgt:∀{j},m<j→m*sz+sz≤j*sz:=fun {j} UP=>by
      have:=Nat.mul_le_mul_right sz (show m+1≤j from UP)
      rwa [Nat.add_mul,Nat.one_mul] at this
     simp only[B0n,adI]
     have IQ:∀{u:Value} {d:D},aZ w ρ.S u d→aZ (w.setRow (ρ.bh ob) (vs.toList.take (m*sz+off)++(a.eval y).cells.toList++vs.toList.drop (m*sz+off+n)).toArray) ρ.S u d:=fun hu=>hu.keep hk (Sets.le_refl _)
     by_cases Rw:m=j
     ·subst Rw
      simp[hme] at hj
      subst hj
      rw[hcells,show off+n=off+dy.cells.length from by omega,gP _ _ _ (by omega)] at hd2
      split at hd2
      ·rename_i hc
       obtain⟨h1,v,hv,kE⟩:=hr m e c d hem hd2
       exact⟨h1,v,by rw[if_pos (by omega)];exact hv,IQ kE⟩
      ·split at hd2
       ·rename_i hc zb
        have hcy:c-off<(a.eval y).cells.size:=by omega
        obtain⟨h1,h2⟩:=Np (c-off) _ d (A0o hcy) hd2
        refine⟨h1,(a.eval y).cells[c-off],?_,IQ h2⟩
        rw[if_neg (by omega),if_pos (by omega),show m*sz+c-(m*sz+off)=c-off from by omega]
        exact A0o hcy
       ·rename_i hc zb
        obtain⟨h1,v,hv,kE⟩:=hr m e c d hem hd2
        exact⟨h1,v,by rw[if_neg (by omega),if_neg (by omega)];exact hv,IQ kE⟩
     ·rw[B0l Rw] at hj
      obtain⟨h1,v,hv,kE⟩:=hr j e2 c d hj hd2
      refine⟨h1,v,?_,IQ kE⟩
      rcases Nat.lt_or_ge j m with UP | UP
      ·have:=hlt UP
       rw[if_pos (by omega)];exact hv
      ·have:=hgt (show m<j from by omega)
       rw[if_neg (by omega),if_neg (by omega)];exact hv
   have one:∀{dy:D},dy.one=true→aZ w ρ.S (a.eval y) dy→(a.eval y).cells.size=1∧(∀(j:Nat) (u:Value),(a.eval y).cells[j]? = some u→u.oneCell'=true) ∧
     ∀(j:Nat) (u:Value) (d:D),(a.eval y).cells[j]? = some u→dy.cells[j]? = some d→d.one=true∧aZ w ρ.S u d:=by
    intro dy h1 hrd
    have UU:=hrd.one h1
    have hc:(a.eval y).cells=#[a.eval y]:=by cases hv:a.eval y <;> first | rfl | (rw[hv] at UU;simp[Value.oneCell'] at UU)
    rw[hc,D.gG h1]
    refine⟨rfl,fun j u hu=>?_,fun j u d hu dY=>?_⟩
    ·cases j with
     | zero=>simp at hu;subst hu;exact UU
     | succ j=>simp at hu
    ·cases j with
     | zero=>simp at hu dY;subst hu dY;exact⟨h1,hrd⟩
     | succ j=>simp at hu
   split at hl
   ·rename_i y'
    split at hl
    ·rename_i hn1
     cases hl
     refine⟨ob,_,rfl,by simp[bW],rfl,?_⟩
     obtain⟨dy,Nh,hrd,h1⟩:=hy.gj
     obtain⟨ha,hb',hc⟩:=one (h1 rfl) hrd
     exact fin Nh hrd (by rw[D.gG (h1 rfl)];simp[hn1]) (by omega) hb' hc hb
    ·cases hl
   ·rename_i y'
    split at hl
    ·rename_i hn1
     cases hl
     refine⟨ob,_,rfl,by simp[bW],rfl,?_⟩
     obtain⟨dy,Nh,hrd,_⟩:=hy.gj
     have h1:dy.one=true:=by
      obtain⟨d,he,_⟩:=hb
      simp only[E.eval,Nh,A0d,D.aV] at he
      cases hl':l.eval env with
      | none=>simp[hl'] at he
      | some dl=>
       cases hi':i.eval env with
       | none=>simp[hl',hi'] at he
       | some di=>
        by_cases h1:dy.one=true
        ·exact h1
        ·simp[hl',hi',h1] at he
     obtain⟨ha,hb',hc⟩:=one h1 hrd
     exact fin (y':=.aV y') (by simp[E.eval,Nh,D.aV,h1]) hrd (by rw[D.gG h1];simp[hn1]) (by omega) hb' hc hb
    ·cases hl
   ·rename_i y
    obtain⟨y',K4,rfl⟩:=A0b.1 hl
    refine⟨ob,_,rfl,by simp[bW],rfl,?_⟩
    obtain⟨dy,Nh,hrd⟩:=SV.toE_rd K4 hy
    have hag:∃cs,dy=.agg cs∧cs.length=n:=by
     obtain⟨d,he,_⟩:=hb
     simp only[E.eval,Nh,A0d] at he
     cases hl':l.eval env with
     | none=>simp[hl'] at he
     | some dl=>
      cases hi':i.eval env with
      | none=>simp[hl',hi'] at he
      | some di=>
       cases dy with
       | agg cs=>
        by_cases dP:cs.length=n
        ·exact⟨cs,rfl,dP⟩
        ·simp[hl',hi',D.br,dP] at he
       | _=>simp[hl',hi',D.br] at he
    obtain⟨cs,rfl,dP⟩:=hag
    obtain⟨vs,MN,hvl,FG,hh⟩:=hrd.iT
    refine fin (y':=.br n y') (dy:=.agg cs) (by simp[E.eval,Nh,D.br,dP]) hrd dP (by rw[MN];simp[Value.cells];omega) (fun j u hu=>?_) (fun j u d hu dY=>?_) hb
    ·rw[MN] at hu
     have hj:j<cs.length:=by rw[←hvl];exact(A0h.1 hu).1
     exact(hh j u _ hu (A0f hj)).one (FG j _ (A0f hj))
    ·rw[MN] at hu
     exact⟨FG j d dY,hh j u d hu dY⟩
   ·cases hl
  ·cases hl
 ·rename_i p s
  split at hl
  ·rename_i cf hx' y' bW K4
   split at hl
   ·cases hl
   ·rename_i hro
    cases hl
    exact⟨aO,_,rfl,by simp[bW],rfl,O3 ho hn bW (by simpa using hro) hx K4 hy h hd hb⟩
  ·cases hl
 ·cases hl

end
end
end

section
noncomputable section
section
variable {P:Program} {w w0:World} {X:gB} {a:Act} {σ:af} {env:List D} {ρ:cr}

theorem aI {o:Oper}{v:Value}{sv:SV}(h:bE w0 X w a σ env ρ)(hd:∀d,o.dst=some d→d<σ.tmps.length)(hr:(execOp a.eval o).run P w=.ok (.value v) w)(hs:cu w ρ env v sv):cX P o a w w0 X (σ.put o.dst sv) env:=
 bq hr (h.put hd hs)

theorem vD {o:Oper}{x:Operand}{sx:SV}(ho:o.op=.move x∨o.op=.assign x)(hx:cu w ρ env (a.eval x) sx)(h:bE w0 X w a σ env ρ)(hd:∀d,o.dst=some d→d<σ.tmps.length):cX P o a w w0 X (σ.put o.dst sx) env:=
 aI h hd (by rcases ho with ho | ho <;> (unfold execOp;simp only[ho];rfl)) hx

theorem aZ.D9 {S:Sets}{v:Value}{i off:Nat}(h:aZ w S v (.loc i off)):∃ad,v=.pointer (some ad):=by
 cases h;exact⟨_,rfl⟩

theorem aZ.v_eq {S:Sets}{v x:Value}(h:aZ w S v (.v x)):v=x:=h.QS.1

theorem Bl {t:TypeId}(h:kindOf P t=some .mp):∃k e,P.underlying t=some (.map k e):=by
 unfold kindOf at h
 split at h <;> simp at h
 exact⟨_,_,by assumption⟩

theorem aZ.Pu {w:World}{S:Sets}{v:Value}{i:Nat}(h:aZ w S v (.mp i)):∃r,v=.map (some r):=by
 cases h;exact⟨_,rfl⟩

theorem jV {t:TypeId}(h:kindOf P t=some .ptr):∃e,P.underlying t=some (.pointer e):=by
 unfold kindOf at h
 split at h <;> simp at h
 exact⟨_,by assumption⟩

theorem Ep {t:TypeId}(h:kindOf P t=some .bool):P.underlying t=some .bool:=by
 unfold kindOf at h
 split at h <;> simp at h
 assumption

theorem tJ (d:Nat)(t e:TypeId)(p:Option Addr)(h:P.underlying t=some (.pointer e)):(Op.equalIn (d+1) t (.pointer p) (.pointer none)).run P w=.ok p.isNone w:=by
 simp only[Op.equalIn,A0k,run_underlying h,A0e]
 cases p <;> rfl
theorem tI (d:Nat)(t e:TypeId)(p:Option Addr)(h:P.underlying t=some (.pointer e)):(Op.equalIn (d+1) t (.pointer none) (.pointer p)).run P w=.ok p.isNone w:=by
 simp only[Op.equalIn,A0k,run_underlying h,A0e]
 rfl
theorem tK (t e:TypeId)(p:Option Addr)(h:P.underlying t=some (.pointer e)):(binOp .eql t (.pointer p) (.pointer none)).run P w=.ok (.bool p.isNone) w:=by
 have h1:(Op.equal t (.pointer p) (.pointer none)).run P w=.ok p.isNone w:=tJ 9999 t e p h
 simp only[binOp,A0k,h1,A0e,A0n]
theorem sW (t e:TypeId)(p:Option Addr)(h:P.underlying t=some (.pointer e)):(binOp .neq t (.pointer p) (.pointer none)).run P w=.ok (.bool (!p.isNone)) w:=by
 have h1:(Op.equal t (.pointer p) (.pointer none)).run P w=.ok p.isNone w:=tJ 9999 t e p h
 simp only[binOp,A0k,h1,A0e,A0n]
theorem zE (t e:TypeId)(p:Option Addr)(h:P.underlying t=some (.pointer e)):(binOp .eql t (.pointer none) (.pointer p)).run P w=.ok (.bool p.isNone) w:=by
 have h1:(Op.equal t (.pointer none) (.pointer p)).run P w=.ok p.isNone w:=tI 9999 t e p h
 simp only[binOp,A0k,h1,A0e,A0n]
theorem ye (t e:TypeId)(p:Option Addr)(h:P.underlying t=some (.pointer e)):(binOp .neq t (.pointer none) (.pointer p)).run P w=.ok (.bool (!p.isNone)) w:=by
 have h1:(Op.equal t (.pointer none) (.pointer p)).run P w=.ok p.isNone w:=tI 9999 t e p h
 simp only[binOp,A0k,h1,A0e,A0n]

theorem nV {t:TypeId}{xs:Array Value}{i:Nat}{v:Value}(hg:iy P t=some false)(hv:xs[i]? = some v):(part t xs i).run P w=.ok v w:=by
 simp[part,uy hg,hv]

theorem nY {d:Nat}{xs ys:Array Value}{dx dy:List D}{S:Sets}(hxl:xs.size=dx.length)(rO:ys.size=dy.length)(hx:∀(i:Nat) (v:Value) (c:D),xs[i]? = some v→dx[i]? = some c→aZ w S v c)(hy:∀(i:Nat) (v:Value) (c:D),ys[i]? = some v→dy[i]? = some c→aZ w S v c) :
  ∀(fs:List Field) (i:Nat) (ks:List Nat) (b:Bool),fp P i fs=some ks→D.eqs ks (dx.drop i) (dy.drop i)=some b→(Op.eqFields (d+1) xs ys fs).run P w=.ok b w
 | [],i,ks,b,hf,he=>by
  simp only[fp] at hf
  cases hf
  cases h1:dx.drop i <;> cases h2:dy.drop i <;> rw[h1,h2] at he <;> simp[D.eqs] at he
  subst he
  simp[Op.eqFields]
 | f :: fs,i,ks,b,hf,he=>by
  simp only[fp] at hf
  split at hf
  ·rename_i hc
   obtain⟨hoff,hname⟩:=hc
   have key:∀{ks':List Nat} {cx cy:D} {rx ry:List D} {r b':Bool},dx.drop i=cx :: rx→dy.drop i=cy :: ry→fp P (i+1) fs=some ks'→iy P f.type=some false →
     (∀{u v:Value},aZ w S u cx→aZ w S v cy→(Op.equalIn (d+1) f.type u v).run P w=.ok r w)→D.eqs ks' rx ry=some b'→b=(r&&b')→(Op.eqFields (d+1) xs ys (f :: fs)).run P w=.ok b w:=by
    intro ks' cx cy rx ry r b' h1 h2 hks p7 hr hb' FI
    have uX:i<dx.length:=by
     rcases Nat.lt_or_ge i dx.length with h | h
     ·exact h
     ·rw[List.drop_of_length_le h] at h1;cases h1
    have P3:i<dy.length:=by
     rcases Nat.lt_or_ge i dy.length with h | h
     ·exact h
     ·rw[List.drop_of_length_le h] at h2;cases h2
    rw[List.drop_eq_getElem_cons uX] at h1
    rw[List.drop_eq_getElem_cons P3] at h2
    cases h1;cases h2
    have hpx:(part f.type xs f.offset).run P w=.ok xs[i] w:=nV p7 (by rw[hoff];simp[hxl,uX])
    have hpy:(part f.type ys f.offset).run P w=.ok ys[i] w:=nV p7 (by rw[hoff];simp[rO,P3])
    have Rm:=hr (hx i xs[i] dx[i] (by simp[hxl,uX]) (by simp[uX])) (hy i ys[i] dy[i] (by simp[rO,P3]) (by simp[P3]))
    have J3:=nY (d:=d) hxl rO hx hy fs (i+1) ks' b' hks hb'
    simp only[Op.eqFields,hname,ne_eq,not_false_eq_true,if_true,A0k,hpx,hpy,Rm,A0e]
    cases r with
    | false=>simp[FI]
    | true=>simp[FI,J3]
   split at hf
   ·rename_i k hu
    obtain⟨ks',hks,rfl⟩:=A0b.1 hf
    unfold D.eqs at he
    split at he <;> first | (rename_i e _ _;cases e;done) | skip
    ·rename_i e1 e2 e3
     cases e1
     split at he
     ·rename_i hk
      subst hk
      obtain⟨b',h1,rfl⟩:=A0b.1 he
      exact key e2 e3 hks (by unfold iy;rw[hu];rfl) (fun Ap hv1=>by rw[Ap.v_eq,hv1.v_eq];exact run_equalIn_int w d f.type _ k _ _ hu) h1 rfl
     ·cases he
    ·cases he
   ·rename_i hu
    obtain⟨ks',hks,rfl⟩:=A0b.1 hf
    unfold D.eqs at he
    split at he <;> first | (rename_i e _ _;cases e;done) | skip
    ·rename_i e1 e2 e3
     cases e1
     obtain⟨b',h1,rfl⟩:=A0b.1 he
     exact key e2 e3 hks (by unfold iy;rw[hu];rfl) (fun Ap hv1=>by rw[Ap.v_eq,hv1.v_eq];exact run_equalIn_bool' w d f.type _ _ hu) h1 rfl
    ·cases he
   ·rename_i hu
    obtain⟨ks',hks,rfl⟩:=A0b.1 hf
    unfold D.eqs at he
    split at he <;> first | (rename_i e _ _;cases e;done) | skip
    ·rename_i e1 e2 e3
     cases e1
     obtain⟨b',h1,rfl⟩:=A0b.1 he
     exact key e2 e3 hks (by unfold iy;rw[hu];rfl) (fun Ap hv1=>by rw[Ap.v_eq,hv1.v_eq];exact run_equalIn_string w d f.type _ _ hu) h1 rfl
    ·cases he
   ·cases hf
  ·cases hf

theorem Iw {op:BinOp}{t:TypeId}{x y:Operand}{v u:Value}{kd:Kd}{dx dy dz:D}{S:Sets}(hk:kindOf P t=some kd)(hz:D.bin op kd dx dy=some dz)(hx:aZ w S v dx)(hy:aZ w S u dy) :
  ∃r,(do eqGuard op t x y v u;binOp op t v u:Sem Value).run P w=.ok r w∧aZ w S r dz∧dz.one=true:=by
 unfold D.bin at hz
 split at hz
 ·rename_i k a k' b
  obtain rfl:=hx.v_eq
  obtain rfl:=hy.v_eq
  simp only[eqGuard_at_int,A0k,A0n,A0e]
  clear hk
  cases op
  case shl=>simp[shI] at hz;obtain⟨n,⟨hb,rfl⟩,rfl⟩:=hz;exact⟨_,by simp[binOp,Op.shift,show¬b<0 by omega],.v rfl,rfl⟩
  case shr=>simp[shI] at hz;obtain⟨n,⟨hb,rfl⟩,rfl⟩:=hz;exact⟨_,by simp[binOp,Op.shift,show¬b<0 by omega],.v rfl,rfl⟩
  case quo=>simp[zP,Oo] at hz;obtain⟨rfl,n,⟨hb,rfl⟩,rfl⟩:=hz;exact⟨_,by simp[binOp,Op.intDiv,hb],.v rfl,rfl⟩
  case rem=>simp[zP,Oo] at hz;obtain⟨rfl,n,⟨hb,rfl⟩,rfl⟩:=hz;exact⟨_,by simp[binOp,Op.intDiv,hb],.v rfl,rfl⟩
  all_goals (simp only[zP,Oo,A0y] at hz;by_cases hkk:k=k' <;> simp only[hkk,if_true,if_false,A0u] at hz <;> first | (cases hz;done) | skip)
  all_goals (subst hkk;subst hz;exact⟨_,by simp[binOp,Op.intCmp,Op.intArith,Op.intBits],.v rfl,rfl⟩)
 ·rename_i b b'
  obtain rfl:=hx.v_eq
  obtain rfl:=hy.v_eq
  have ht:=Ep hk
  simp only[eqGuard_at_bool,A0k,A0n,A0e]
  split at hz <;> first | (cases hz;done) | skip
  ·cases hz;exact⟨_,run_eql_bool w t b b' ht,.v rfl,rfl⟩
  ·cases hz;exact⟨_,run_neq_bool w t b b' ht,.v rfl,rfl⟩
 ·rename_i s s'
  obtain rfl:=hx.v_eq
  obtain rfl:=hy.v_eq
  simp only[eqGuard_at_string,A0k,A0n,A0e]
  split at hz <;> first | (cases hz;done) | skip
  ·split at hz
   ·cases hz
   ·rename_i hsz
    cases hz
    exact⟨_,by simp only[binOp,Op.stringOp];rw[if_neg hsz];rfl,.v rfl,rfl⟩
  all_goals (cases hz;exact⟨_,by simp only[binOp,Op.stringOp];rfl,.v rfl,rfl⟩)
 ·obtain rfl:=hx.v_eq
  obtain rfl:=hy.v_eq
  obtain⟨e,ht⟩:=jV hk
  simp only[eqGuard_at_pointer,A0k,A0n,A0e]
  split at hz <;> first | (cases hz;done) | skip
  ·cases hz;exact⟨_,tK t e none ht,.v rfl,rfl⟩
  ·cases hz;exact⟨_,sW t e none ht,.v rfl,rfl⟩
 ·obtain⟨ad,rfl⟩:=hx.D9
  obtain rfl:=hy.v_eq
  obtain⟨e,ht⟩:=jV hk
  simp only[eqGuard_at_pointer,A0k,A0n,A0e]
  split at hz <;> first | (cases hz;done) | skip
  ·cases hz;exact⟨_,tK t e _ ht,.v rfl,rfl⟩
  ·cases hz;exact⟨_,sW t e _ ht,.v rfl,rfl⟩
 ·obtain rfl:=hx.v_eq
  obtain⟨ad,rfl⟩:=hy.D9
  obtain⟨e,ht⟩:=jV hk
  simp only[eqGuard_at_pointer,A0k,A0n,A0e]
  split at hz <;> first | (cases hz;done) | skip
  ·cases hz;exact⟨_,zE t e _ ht,.v rfl,rfl⟩
  ·cases hz;exact⟨_,ye t e _ ht,.v rfl,rfl⟩
 ·obtain⟨b,f,rfl,_⟩:=hx.ia
  obtain rfl:=hy.v_eq
  obtain⟨e,ht⟩:=jV hk
  simp only[eqGuard_at_pointer,A0k,A0n,A0e]
  split at hz <;> first | (cases hz;done) | skip
  ·cases hz;exact⟨_,tK t e _ ht,.v rfl,rfl⟩
  ·cases hz;exact⟨_,sW t e _ ht,.v rfl,rfl⟩
 ·obtain rfl:=hx.v_eq
  obtain⟨b,f,rfl,_⟩:=hy.ia
  obtain⟨e,ht⟩:=jV hk
  simp only[eqGuard_at_pointer,A0k,A0n,A0e]
  split at hz <;> first | (cases hz;done) | skip
  ·cases hz;exact⟨_,zE t e _ ht,.v rfl,rfl⟩
  ·cases hz;exact⟨_,ye t e _ ht,.v rfl,rfl⟩
 ·obtain⟨r,rfl⟩:=hx.Pu
  obtain rfl:=hy.v_eq
  obtain⟨k,e,ht⟩:=Bl hk
  have hg:(eqGuard op t x y (.map (some r)) (.map none)).run P w=.ok () w:=by cases op <;> simp[eqGuard]
  simp only[A0k,hg,A0e]
  split at hz <;> first | (cases hz;done) | skip
  ·cases hz;exact⟨_,run_eql_map_nil w t k e _ ht,.v rfl,rfl⟩
  ·cases hz;exact⟨_,run_neq_map_nil w t k e _ ht,.v rfl,rfl⟩
 ·obtain rfl:=hx.v_eq
  obtain rfl:=hy.v_eq
  obtain⟨k,e,ht⟩:=Bl hk
  have hg:(eqGuard op t x y (.map none) (.map none)).run P w=.ok () w:=by cases op <;> simp[eqGuard]
  simp only[A0k,hg,A0e]
  split at hz <;> first | (cases hz;done) | skip
  ·cases hz;exact⟨_,run_eql_map_nil w t k e none ht,.v rfl,rfl⟩
  ·cases hz;exact⟨_,run_neq_map_nil w t k e none ht,.v rfl,rfl⟩
 ·rename_i ks dx dy
  obtain⟨xs,rfl,hxl,_,De⟩:=hx.iT
  obtain⟨ys,rfl,rO,_,XC⟩:=hy.iT
  have hfl:∃fs:Array Field,P.underlying t=some (.struct fs)∧oO P t=some ks:=by
   unfold kindOf at hk
   split at hk <;> simp at hk
   exact⟨_,by assumption,hk⟩
  obtain⟨fs,hu,hfl⟩:=hfl
  unfold oO at hfl
  rw[hu] at hfl
  simp only at hfl
  split at hfl
  ·rename_i hc
   have hfo:P.fieldsOf t=fs:=by simp[Program.fieldsOf,hu]
   have heq:∀{b:Bool},D.eqs ks dx dy=some b→(Op.equalIn 10000 t (.agg xs) (.agg ys)).run P w=.ok b w:=by
    intro b hb
    rw[run_equalIn_agg w 9999 t xs ys (by rw[hfo];exact hu) hc.1,hfo]
    exact nY (d:=9998) hxl rO De XC fs.toList 0 ks b hfl (by simpa using hb)
   have hg:=run_eqGuard_agg (P:=P) w op t x y xs ys hc.2
   simp only[A0k,hg,A0e]
   split at hz
   ·obtain⟨b,hb,rfl⟩:=A0b.1 hz
    exact⟨.bool b,by rw[run_eql_struct,heq hb];rfl,.v rfl,rfl⟩
   ·obtain⟨b,hb,rfl⟩:=A0b.1 hz
    exact⟨.bool (!b),by rw[run_neq_struct,heq hb];rfl,.v rfl,rfl⟩
   ·cases hz
  ·cases hfl
 ·cases hz

theorem vK {v:Value}{sv:SV}(h:cu w ρ env v sv)(ha:Cz sv=true):∃ad,v=.pointer (some ad):=by
 cases sv <;> simp[Cz] at ha
 ·exact⟨_,h.iN⟩
 ·obtain⟨_,_,_,hv⟩:=h.lF;exact⟨_,hv⟩
 ·obtain⟨_,_,hd⟩:=h.pW;obtain⟨b,f,hv,_⟩:=hd.ia;exact⟨_,hv⟩

theorem vJ {v:Value}{sv:SV}(h:cu w ρ env v sv)(ha:uS sv=true):v=.pointer none:=by
 unfold uS at ha
 split at ha
 ·obtain⟨d,hx,hd,_⟩:=h.gj
  simp[E.eval] at hx
  subst hx
  exact hd.v_eq
 ·simp at ha

theorem GU {o:Oper} {op:BinOp} {t yt:TypeId} {x y:Operand} {sx sy:SV} {ix:Nat} {r:bZ} (ho:o.op=.binOp op t x y yt) (hl:SN P op t sx sy ix=some r) (hx:cu w ρ env (a.eval x) sx) (hy:cu w ρ env (a.eval y) sy) (h:bE w0 X w a σ env ρ)
  (hd:∀d,o.dst=some d→d<σ.tmps.length) (hb:aY P env ix r.bind):r.cA=none∧cX P o a w w0 X (σ.put o.dst r.val) env:=by
 unfold SN at hl
 have c8:∀{v:Value},(do eqGuard op t x y (a.eval x) (a.eval y);binOp op t (a.eval x) (a.eval y):Sem Value).run P w=.ok v w→(execOp a.eval o).run P w=.ok (.value v) w:=by
  intro v hv
  unfold execOp
  simp only[ho,A0k]
  simp only[A0k] at hv
  cases hg:(eqGuard op t x y (a.eval x) (a.eval y)).run P w with
  | halt _ _=>rw[hg] at hv;simp at hv
  | ok _ w1=>
   rw[hg] at hv
   simp only[A0e] at hv ⊢
   rw[hv]
   rfl
 split at hl
 ·rename_i hc
  obtain⟨hk,hc⟩:=hc
  obtain⟨e,ht⟩:=jV hk
  have hrun:∀b,(op=.eql∧b=false∨op=.neq∧b=true)→(do eqGuard op t x y (a.eval x) (a.eval y);binOp op t (a.eval x) (a.eval y):Sem Value).run P w=.ok (.bool b) w:=by
   intro b bW
   rcases hc with⟨h1,h2⟩ | ⟨h1,h2⟩
   ·obtain⟨ad,hv⟩:=vK hx h1
    have hu:=vJ hy h2
    rw[hv,hu]
    simp only[eqGuard_at_pointer,A0k,A0n,A0e]
    rcases bW with⟨rfl,rfl⟩ | ⟨rfl,rfl⟩
    ·exact tK t e _ ht
    ·exact sW t e _ ht
   ·obtain⟨ad,hu⟩:=vK hy h2
    have hv:=vJ hx h1
    rw[hv,hu]
    simp only[eqGuard_at_pointer,A0k,A0n,A0e]
    rcases bW with⟨rfl,rfl⟩ | ⟨rfl,rfl⟩
    ·exact zE t e _ ht
    ·exact ye t e _ ht
  split at hl
  ·cases hl;exact⟨rfl,aI h hd (c8 (hrun false (.inl ⟨rfl,rfl⟩))) (.e rfl (.v rfl) fun _=>rfl)⟩
  ·cases hl;exact⟨rfl,aI h hd (c8 (hrun true (.inr ⟨rfl,rfl⟩))) (.e rfl (.v rfl) fun _=>rfl)⟩
  ·cases hl
 ·split at hl
  ·rename_i kd x' y' hk hx' hy'
   cases hl
   obtain⟨dx,fW,fF⟩:=SV.toE_rd hx' hx
   obtain⟨dy,wW,MV⟩:=SV.toE_rd hy' hy
   obtain⟨dz,he,bQ⟩:=hb
   simp only[E.eval,fW,wW,A0d] at he
   obtain⟨r,hrun,hr,h1⟩:=Iw (P:=P) (x:=x) (y:=y) hk he fF MV
   exact⟨rfl,aI h hd (c8 hrun) (.e (d:=dz) (by simp[E.eval,bQ]) hr fun _=>h1)⟩
  ·cases hl

theorem JR {o:Oper} {op:UnOp} {t:TypeId} {x:Operand} {sx:SV} {ix:Nat} {r:bZ} (ho:o.op=.unOp op t x) (hl:lun op sx ix=some r) (hx:cu w ρ env (a.eval x) sx) (h:bE w0 X w a σ env ρ)
  (hd:∀d,o.dst=some d→d<σ.tmps.length) (hb:aY P env ix r.bind):r.cA=none∧cX P o a w w0 X (σ.put o.dst r.val) env:=by
 obtain⟨x',hx',rfl⟩:=A0b.1 hl
 obtain⟨dx,fW,fF⟩:=SV.toE_rd hx' hx
 obtain⟨dz,he,bQ⟩:=hb
 simp only[E.eval,fW,A0d] at he
 unfold D.un at he
 split at he
 ·rename_i b
  cases he
  have hv:=fF.v_eq
  exact⟨rfl,aI h hd (v:=.bool (!b)) (by unfold execOp;simp[ho,hv,Op.unary]) (.e (by simp only[E.eval,bQ]) (.v rfl) fun _=>rfl)⟩
 ·rename_i k n
  cases he
  have hv:=fF.v_eq
  exact⟨rfl,aI h hd (v:=.int k (k.wrap (0-n))) (by unfold execOp;simp[ho,hv,Op.unary,Op.intArith]) (.e (by simp only[E.eval,bQ]) (.v rfl) fun _=>rfl)⟩
 ·cases he

theorem Ei {o:Oper} {src dst:TypeId} {x:Operand} {sx:SV} {ix:Nat} {r:bZ} (ho:o.op=.convert src dst x) (hl:Mw P src dst sx ix=some r) (hx:cu w ρ env (a.eval x) sx) (h:bE w0 X w a σ env ρ)
  (hd:∀d,o.dst=some d→d<σ.tmps.length) (hb:aY P env ix r.bind):r.cA=none∧cX P o a w w0 X (σ.put o.dst r.val) env:=by
 unfold Mw at hl
 split at hl
 ·rename_i ds k hs fu
  obtain⟨x',hx',rfl⟩:=A0b.1 hl
  obtain⟨dx,fW,fF⟩:=SV.toE_rd hx' hx
  obtain⟨dz,he,bQ⟩:=hb
  simp only[E.eval,fW,A0d] at he
  unfold D.conv at he
  split at he
  ·rename_i k' n
   cases he
   have hv:=fF.v_eq
   exact⟨rfl,aI h hd (v:=.int k (k.wrap n)) (by unfold execOp;simp[ho,hv,convert,run_underlying hs,run_underlying fu,Conv.intToInt]) (.e (by simp only[E.eval,bQ]) (.v rfl) fun _=>rfl)⟩
  ·cases he
 ·cases hl

theorem yG {o:Oper} {x:Operand} {sx:SV} {i ix:Nat} {r:bZ} (ho:o.op=.extract x i) (hl:yH sx i ix=some r) (hx:cu w ρ env (a.eval x) sx) (h:bE w0 X w a σ env ρ)
  (hd:∀d,o.dst=some d→d<σ.tmps.length) (hb:aY P env ix r.bind):r.cA=none∧cX P o a w w0 X (σ.put o.dst r.val) env:=by
 have c8:∀{vs:Array Value} {v:Value},a.eval x=.tuple vs→vs[i]? = some v→(execOp a.eval o).run P w=.ok (.value v) w:=by
  intro vs v hv hi
  unfold execOp
  simp[ho,hv,Instr.extract,hi]
 unfold yH at hl
 split at hl
 ·rename_i cs
  obtain⟨c,hc,rfl⟩:=A0b.1 hl
  obtain⟨vs,hv,hlen,hr⟩:=hx.wE
  have hi:i<vs.size:=by rw[hlen];exact(A0a.1 hc).1
  exact⟨rfl,aI h hd (c8 hv (A0o hi)) (hr i _ c (A0o hi) hc)⟩
 ·rename_i y s
  cases hl
  obtain⟨d,dY,hrd,_⟩:=hx.gj
  obtain⟨dz,he,bQ⟩:=hb
  simp only[E.eval,dY,A0d] at he
  unfold D.au at he
  split at he
  ·obtain⟨vs,hv,hlen,hr⟩:=hrd.wE
   have hi:i<vs.size:=by rw[hlen];exact(A0a.1 he).1
   exact⟨rfl,aI h hd (c8 hv (A0o hi)) (.e (d:=dz) (by simp[E.eval,bQ]) (hr i _ dz (A0o hi) he) (by simp))⟩
  ·cases he
 ·cases hl

theorem uO {o:Oper} {s:TypeId} {x:Operand} {f:Nat} {sx:SV} {r:bZ} (ho:o.op=.fieldAddr s x f) (hl:rK P s sx f=some r) (hx:cu w ρ env (a.eval x) sx) (h:bE w0 X w a σ env ρ)
  (hd:∀d,o.dst=some d→d<σ.tmps.length):r.cA=none∧r.bind=none∧cX P o a w w0 X (σ.put o.dst r.val) env:=by
 unfold rK at hl
 split at hl
 ·rename_i fs hs
  cases hf:fs[f]? with
  | none=>simp[hf] at hl
  | some fd=>
  cases hn:o6 P fd.type with
  | none=>simp[hf,hn] at hl
  | some n=>
  simp only[hf,hn,A0d] at hl
  split at hl
  ·cases hl
  ·rename_i hn0
   have c8:∀{b off:Nat},a.eval x=.pointer (some ⟨b,off,none⟩)→(execOp a.eval o).run P w=.ok (.value (.pointer (some ⟨b,off+fd.offset,none⟩))) w:=by
    intro b off hv
    unfold execOp
    simp[ho,hv,Instr.fieldAt,run_underlying hs,hf,Instr.sureAddr,fieldPlace,run_sizeOf hn,hn0,fz]
   split at hl
   ·cases hl
    exact⟨rfl,rfl,aI h hd (c8 hx.iN) .addr⟩
   ·cases hl
    obtain⟨m,k,hi,hv⟩:=hx.lF
    exact⟨rfl,rfl,aI h hd (c8 hv) (by rw[Nat.add_assoc];exact .av hi)⟩
   ·rename_i y0 WU
    cases hl
    obtain⟨d,dY,hrd⟩:=hx.pW
    obtain⟨b,off,hv,hc⟩:=hrd.ia
    refine⟨rfl,rfl,aI h hd (c8 hv) (.fT dY ?_)⟩
    have zb:∀(j:Nat) (e:D),(d.cells.drop (WU+fd.offset))[j]? = some e→(d.cells.drop WU)[fd.offset+j]? = some e:=fun j e hj=>by
     rw[B0o] at hj ⊢
     rwa [Nat.add_assoc] at hj
    refine .ptr (val:=fun j=>((w.cell? ⟨b,off+fd.offset+j,none⟩).getD undef)) (fun j e hj=>(hc _ e (zb j e hj)).1) (fun j e hj=>?_) (fun j e hj=>?_) fun j e hj=>?_
    ·have:=(hc _ e (zb j e hj)).2.1
     rwa [←Nat.add_assoc] at this
    ·obtain⟨u,hu,_⟩:=(hc _ e (zb j e hj)).2.2
     rw[←Nat.add_assoc] at hu
     rw[hu];rfl
    ·obtain⟨u,hu,hr⟩:=(hc _ e (zb j e hj)).2.2
     rw[←Nat.add_assoc] at hu
     rw[hu];exact hr
   ·cases hl
 ·cases hl

theorem ID {S:Sets}{v:Value}{dp d:D}{k:Nat}(h:aZ w S v dp)(hd:D.aD k dp=some d):∃b off,v=.pointer (some ⟨b,off,none⟩)∧aZ w S (.pointer (some ⟨b,off+k,none⟩)) d∧d.one=true:=by
 cases dp with
 | ptr cs=>
  simp only[D.aD] at hd
  cases hd
  obtain⟨b,off,hv,hc⟩:=h.ia
  refine⟨b,off,hv,?_,rfl⟩
  have zb:∀(j:Nat) (e:D),(cs.drop k)[j]? = some e→cs[k+j]? = some e:=fun j e hj=>by
   rw[B0o] at hj
   exact hj
  refine .ptr (val:=fun j=>((w.cell? ⟨b,off+k+j,none⟩).getD undef)) (fun j e hj=>(hc _ e (zb j e hj)).1) (fun j e hj=>?_) (fun j e hj=>?_) fun j e hj=>?_
  ·have:=(hc _ e (zb j e hj)).2.1
   rwa [←Nat.add_assoc] at this
  ·obtain⟨u,hu,_⟩:=(hc _ e (zb j e hj)).2.2
   rw[←Nat.add_assoc] at hu
   rw[hu];rfl
  ·obtain⟨u,hu,hr⟩:=(hc _ e (zb j e hj)).2.2
   rw[←Nat.add_assoc] at hu
   rw[hu];exact hr
 | loc i off=>
  simp only[D.aD] at hd
  cases hd
  cases h with
  | loc hi=>exact⟨_,off,rfl,.loc hi,rfl⟩
 | _=>simp[D.aD] at hd

theorem AA {o:Oper} {s:TypeId} {x:Operand} {f ix:Nat} {sx:SV} {r:bZ} (ho:o.op=.fieldAddr s x f) (hl:Cl P s sx f ix=some r) (hx:cu w ρ env (a.eval x) sx) (h:bE w0 X w a σ env ρ)
  (hd:∀d,o.dst=some d→d<σ.tmps.length) (hb:aY P env ix r.bind):r.cA=none∧cX P o a w w0 X (σ.put o.dst r.val) env:=by
 unfold Cl at hl
 split at hl
 ·rename_i fs p s1 hs
  cases hf:fs[f]? with
  | none=>simp[hf] at hl
  | some fd=>
  cases hn:o6 P fd.type with
  | none=>simp[hf,hn] at hl
  | some n=>
  simp only[hf,hn,A0d] at hl
  split at hl
  ·cases hl
  ·rename_i hn0
   cases hl
   obtain⟨dp,Rs,hrd,_⟩:=hx.gj
   obtain⟨d,he,bQ⟩:=hb
   simp only[E.eval,Rs,A0d] at he
   obtain⟨b,off,hv,CE,h1⟩:=ID hrd he
   refine⟨rfl,aI h hd (v:=.pointer (some ⟨b,off+fd.offset,none⟩)) ?_ (.e (d:=d) (by simp[E.eval,bQ]) CE fun _=>h1)⟩
   unfold execOp
   simp[ho,hv,Instr.fieldAt,run_underlying hs,hf,Instr.sureAddr,fieldPlace,run_sizeOf hn,hn0,fz]
 ·cases hl

end
end
end

section
noncomputable section

def toEAll:List SV→Option (List E)
 | []=>some []
 | s :: r=>match s.toE,toEAll r with | some x,some y=>some (x :: y) | _,_=>none

def scalars (P:Program):List TypeId→Option (List Bool)
 | []=>some []
 | t :: r=>match iy P t,scalars P r with | some b,some l=>some ((!b) :: l) | _,_=>none

def l7 (x:E):Nat→List Bool→List SV
 | _,[]=>[]
 | i,b :: r=>.e (.au i x) b :: l7 x (i+1) r

def mU (x:E):List Bool→SV
 | [b]=>.e x b
 | rs=>.aM (l7 x 0 rs)

def m9 (P:Program)(f:FuncId)(args:List SV)(obj:Nat→Option aE)(ix:Nat):Option bZ:=
 match P.funcs[f]? with
 | some fn => if (fn.name == "runtime.NumGoroutine") = true ∨ fn.body.isNone = true then none else
  match scalars P fn.resultTypes.toList,toEAll args,obj aO with
  | some rs,some xs,some (.store cf h)=>if cf.Px.contains f then some { val:=mU (.sym ix) rs,bind:=some (.call [] f (.const (.st [])) (xs.map E.fO) rs) } else if cf.wr.contains f then(if cf.ro then none else some { val:=mU (.au 0 (.sym ix)) rs,cA:=some (aO,.store cf (.au 1 (.sym ix))),bind:=some (.bA [] f h xs rs) })
   else some { val:=mU (.sym ix) rs,bind:=some (.call [] f h xs rs) }
  | _,_,_=>none
 | none=>none

def DD (P:Program)(t:TypeId):Option (List Bool):=
 match P.underlying t with
 | some (.tuple ts)=>scalars P ts.toList
 | some _=>scalars P [t]
 | none=>none

def Cq (P:Program)(x:E)(args:List SV)(o:Oper)(obj:Nat→Option aE)(ix:Nat):Option bZ:=
 match DD P o.type,toEAll args,obj aO with
 | some rs,some xs,some (.store cf h)=>if cf.wr.contains (1000000+o.dst.getD 999999) then(if cf.ro then none else some { val:=mU (.au 0 (.sym ix)) rs,cA:=some (aO,.store cf (.au 1 (.sym ix))),bind:=some (.dA [] x h xs rs) })
   else some { val:=mU (.sym ix) rs,bind:=some (.ey [] x h xs rs) }
 | _,_,_=>none

def Mo (fn:Fn)(first bF:List SV)(ix:Nat):Option bZ:=
 match fn,SV.toTs first,SV.toTs bF with
 | .func f,some x,some y=>some { val:=.e (.sym ix) true,bind:=some (.ev (.dO f x y)) }
 | _,_,_=>none

section
variable {P:Program} {w w0:World} {X:gB} {a:Act} {σ:af} {env:List D} {ρ:cr}

theorem uM {o:Oper} {t:TypeId} {x i:Operand} {sx si:SV} {ix:Nat} {r:bZ} (ho:o.op=.indexAddr t x i) (hl:jT P t sx si σ.obj ix=some r) (hx:cu w ρ env (a.eval x) sx) (hi:cu w ρ env (a.eval i) si) (h:bE w0 X w a σ env ρ)
  (hd:∀d,o.dst=some d→d<σ.tmps.length) (hb:aY P env ix r.bind):r.cA=none∧cX P o a w w0 X (σ.put o.dst r.val) env:=by
 unfold jT at hl
 split at hl
 ·rename_i e i' ht hi'
  cases hn:o6 P e with
  | none=>simp[hn] at hl
  | some n=>
  simp only[hn,A0d] at hl
  have he:P.elem t=e:=by simp[Program.elem,ht]
  obtain⟨di,P7,PU⟩:=SV.toE_rd hi' hi
  have c8:∀{b off len cap:Nat} {k:IntKind} {m:Nat},a.eval x=.slice (some ⟨b,off,none⟩) len cap→a.eval i=.int k m→m<len→(execOp a.eval o).run P w=.ok (.value (.pointer (some ⟨b,off+m*n,none⟩))) w:=by
   intro b off len cap k m hv hiv hm
   have hr:=run_indexAt_slice (P:=P) w t ⟨b,off,none⟩ len cap k m (by rw[he];exact ht)
   rw[if_pos ⟨by omega,by omega⟩,he,run_sizeOf hn] at hr
   simp only[A0e,Int.toNat_natCast,fz] at hr
   unfold execOp
   simp only[ho,hv,hiv,A0k,hr,A0e,A0n]
  split at hl
  ·rename_i ob
   split at hl
   ·rename_i l sz bW
    split at hl
    ·rename_i hsz
     cases hl
     obtain⟨vs,ty,es,hh,hxl,hz,hvl,hr,hval,Ru,hS⟩:=h.cn ob _ bW
     obtain⟨d,bz,bQ⟩:=hb
     simp only[E.eval,hxl,P7,A0d] at bz
     unfold D.idx at bz
     split at bz
     ·rename_i es' k m iJ
      cases iJ
      split at bz
      ·rename_i hm0
       have hml:m.toNat<es.length:=(A0a.1 bz).1
       have M6:m=((m.toNat:Nat):Int):=by omega
       have hv:a.eval x=.slice (some ⟨ρ.bh ob,0,none⟩) es.length es.length:=hx.nT.trans hval
       have hiv:a.eval i=.int k (m.toNat:Nat):=by rw[←M6];exact PU.v_eq
       have hp:cu w ρ env (.pointer (some ⟨ρ.bh ob,m.toNat*n+0,none⟩)) (.av ob i' n 0):=.av (k:=k) (by rw[P7,←M6])
       refine⟨rfl,aI h hd (c8 hv hiv hml) ?_⟩
       simpa[Nat.add_comm] using hp
      ·cases bz
     ·cases bz
    ·cases hl
   ·cases hl
  ·rename_i jk
   obtain⟨l,hl',rfl⟩:=A0b.1 hl
   obtain⟨dl,eM,hrl⟩:=SV.toE_rd hl' hx
   obtain⟨d,bz,bQ⟩:=hb
   simp only[E.eval,eM,P7,A0d] at bz
   unfold D.av at bz
   split at bz
   ·rename_i es k m
    split at bz
    ·rename_i hm0
     obtain⟨el,hel,bz⟩:=A0c.1 bz
     split at bz
     ·rename_i dP
      cases bz
      have hml:m.toNat<es.length:=(A0a.1 hel).1
      have M6:m=((m.toNat:Nat):Int):=by omega
      have hiv:a.eval i=.int k (m.toNat:Nat):=by rw[←M6];exact PU.v_eq
      generalize hv:a.eval x=v at hrl
      cases hrl with
      | nil=>simp at hel
      | emp _=>simp at hel
      | @a_ b off len cap size _ val hlen hc hm hz FG hS hw hr=>
       have FE:size=n:=by rw[←hz _ _ hel];exact dP
       subst FE
       refine⟨rfl,aI h hd (c8 hv hiv (by omega)) (.e (d:=.ptr el.cells) (by simp[E.eval,bQ]) ?_ fun _=>rfl)⟩
       exact .ptr (val:=val m.toNat) (fun j e hj=>FG _ _ j e hel (by simpa using hj)) (fun j e hj=>hS _ _ j e hel (by simpa using hj)) (fun j e hj=>hw _ _ j e hel (by simpa using hj)) fun j e hj=>hr _ _ j e hel (by simpa using hj)
     ·cases bz
    ·cases bz
   ·rename_i j off len k m
    split at bz
    ·rename_i hm0
     cases bz
     have M6:m=((m.toNat:Nat):Int):=by omega
     have hiv:a.eval i=.int k (m.toNat:Nat):=by rw[←M6];exact PU.v_eq
     generalize hv:a.eval x=v at hrl
     cases hrl with
     | sl hj hle hc h0=>exact⟨rfl,aI h hd (c8 hv hiv (by omega)) (.e (d:=.loc j (off+m.toNat*n)) (by simp[E.eval,bQ]) (.loc hj) fun _=>rfl)⟩
    ·cases bz
   ·cases bz
 ·rename_i len e i' ht hi'
  obtain⟨n,hn,hl⟩:=A0c.1 hl
  obtain⟨p,hp,rfl⟩:=A0b.1 hl
  have he:P.elem t=e:=by simp[Program.elem,ht]
  have hlen:P.arrayLen t=len:=by simp[Program.arrayLen,ht]
  obtain⟨di,P7,PU⟩:=SV.toE_rd hi' hi
  obtain⟨dp,Nm,FF⟩:=SV.toE_rd hp hx
  obtain⟨d,bz,bQ⟩:=hb
  simp only[E.eval,Nm,P7,A0d,D.m4,D.iL] at bz
  split at bz
  ·rename_i k m
   split at bz
   ·rename_i hm0
    have M6:m=((m.toNat:Nat):Int):=by omega
    have hiv:a.eval i=.int k (m.toNat:Nat):=by rw[←M6];exact PU.v_eq
    obtain⟨b,off,hv,hrd,h1⟩:=ID FF bz
    have hrun:(execOp a.eval o).run P w=.ok (.value (.pointer (some ⟨b,off+m.toNat*n,none⟩))) w:=by
     have hr:=run_indexAt_array (P:=P) w t ⟨b,off,none⟩ k (m.toNat:Nat) (by rw[he,hlen];exact ht)
     rw[hlen,if_pos ⟨by omega,by omega⟩,he,run_sizeOf hn] at hr
     simp only[A0e,Int.toNat_natCast,fz] at hr
     unfold execOp
     simp only[ho,hv,hiv,A0k,hr,A0e,A0n]
    exact⟨rfl,aI h hd hrun (.e (by simp[E.eval,bQ]) hrd fun _=>h1)⟩
   ·cases bz
  ·cases bz
 ·cases hl

theorem GC {o:Oper} {x:Operand} {sx:SV} {ix:Nat} {r:bZ} (ho:o.op=.nilCheck x) (hl:SH sx ix=some r) (hx:cu w ρ env (a.eval x) sx) (h:bE w0 X w a σ env ρ)
  (hd:∀d,o.dst=some d→d<σ.tmps.length) (hb:aY P env ix r.bind):r.cA=none∧cX P o a w w0 X (σ.put o.dst r.val) env:=by
 have c8:∀{ad:Addr},a.eval x=.pointer (some ad)→(execOp a.eval o).run P w=.ok (.value (.pointer (some ad))) w:=by
  intro ad hv
  unfold execOp
  simp only[ho,hv]
  rfl
 unfold SH at hl
 split at hl
 ·cases hl;have hv:=hx.iN;exact⟨rfl,aI h hd (c8 hv) (hv ▸ hx)⟩
 ·cases hl;obtain⟨m,k,_,hv⟩:=hx.lF;exact⟨rfl,aI h hd (c8 hv) (hv ▸ hx)⟩
 ·rename_i fn cs
  obtain⟨vs,hv,_⟩:=hx.lS
  split at hl
  ·cases hl
  ·rename_i hne
   cases hl
   refine⟨rfl,aI h hd (v:=.func fn #[] vs) ?_ (hv ▸ hx)⟩
   unfold execOp
   simp only[ho,hv]
   cases fn <;> first | rfl | exact absurd rfl (hne _)
 ·cases hl
  obtain⟨d,_,hrd⟩:=hx.pW
  obtain⟨b,off,hv,_⟩:=hrd.ia
  exact⟨rfl,aI h hd (c8 hv) (hv ▸ hx)⟩
 ·cases hl
  obtain⟨d,dY,hrd,_⟩:=hx.gj
  obtain⟨dz,he,bQ⟩:=hb
  simp only[E.eval,dY,A0d] at he
  unfold D.nn at he
  split at he
  ·cases he
   obtain⟨b,off,hv,_⟩:=hrd.ia
   exact⟨rfl,aI h hd (c8 hv) (.e (d:=_) (show(E.sym ix).eval env=_ from bQ) (by rw[←hv];exact hrd) fun _=>rfl)⟩
  ·cases he
   generalize hv:a.eval x=v at hrd
   cases hrd with
   | loc hi=>exact⟨rfl,aI h hd (c8 hv) (.e (by simp only[E.eval,bQ]) (.loc hi) fun _=>rfl)⟩
  ·cases he
   have hk:=hrd
   generalize hv:a.eval x=v at hrd
   cases hrd with
   | fn h1 h2 h3 h4=>
    refine⟨rfl,aI h hd (v:=a.eval x) ?_ (.e (by simp only[E.eval,bQ]) hk fun _=>rfl)⟩
    unfold execOp
    simp only[ho,hv]
    rfl
  ·cases he
 ·cases hl

theorem zA {o:Oper}{t:TypeId}{x:Operand}{v:Value}(ho:o.op=.call { callee:=.builtin .len,args:=#[x],argTypes:=#[t] })(hr:(Builtin.len_ #[t] o.type #[a.eval x]).run P w=.ok v w):(execOp a.eval o).run P w=.ok (.value v) w:=by
 unfold execOp
 simp only[ho,resolve,invoke,builtin,A0k,A0n,A0e,List.map_toArray,List.map_cons,List.map_nil,hr]

theorem GH {o:Oper} {t:TypeId} {x:Operand} {sx:SV} {ix:Nat} {r:bZ} (ho:o.op=.call { callee:=.builtin .len,args:=#[x],argTypes:=#[t] }) (hl:JW P t sx σ.obj ix=some r) (hx:cu w ρ env (a.eval x) sx) (h:bE w0 X w a σ env ρ)
  (hd:∀d,o.dst=some d→d<σ.tmps.length) (hb:aY P env ix r.bind):r.cA=none∧cX P o a w w0 X (σ.put o.dst r.val) env:=by
 unfold JW at hl
 split at hl
 ·rename_i e ht
  have he:P.elem t=e:=by simp[Program.elem,ht]
  have c8:∀{ad:Option Addr} {n c:Nat},a.eval x=.slice ad n c→(execOp a.eval o).run P w=.ok (.value (.int .i64 n)) w:=by
   intro ad n c hv
   refine zA ho ?_
   rw[hv]
   exact run_len_slice (P:=P) w t o.type ad n c (by rw[he];exact ht)
  have fin:∀{ad:Option Addr} {n c:Nat} {es:List D},a.eval x=.slice ad n c→n=es.length→env[ix]? = some (.v (.int .i64 es.length))→cX P o a w w0 X (σ.put o.dst (.e (.sym ix) true)) env:=by
   intro ad n c es hv hn bQ
   exact aI h hd (c8 hv) (.e (d:=.v (.int .i64 n)) (by rw[E.eval,bQ,hn]) (.v rfl) fun _=>rfl)
  split at hl
  ·rename_i ob
   split at hl
   ·rename_i l sz bW
    cases hl
    obtain⟨vs,ty,es,hh,hxl,hz,hvl,hr,hval,Ru,hS⟩:=h.cn ob _ bW
    obtain⟨d,bz,bQ⟩:=hb
    simp only[E.eval,hxl,A0d,D.bD] at bz
    cases bz
    exact⟨rfl,fin (hx.nT.trans hval) rfl bQ⟩
   ·cases hl
  ·obtain⟨l,hl',rfl⟩:=A0b.1 hl
   obtain⟨dl,eM,hrl⟩:=SV.toE_rd hl' hx
   obtain⟨d,bz,bQ⟩:=hb
   simp only[E.eval,eM,A0d] at bz
   unfold D.bD at bz
   split at bz
   ·cases bz
    obtain⟨ad,n,c,hv,hn⟩:=hrl.yw
    exact⟨rfl,fin hv hn bQ⟩
   ·cases bz
    generalize hv:a.eval x=v at hrl
    cases hrl with
    | sl hi hle hc h0=>exact⟨rfl,aI h hd (c8 hv) (.e (by simp only[E.eval,bQ]) (.v rfl) fun _=>rfl)⟩
   ·cases bz
    generalize hv:a.eval x=v at hrl
    cases hrl with
    | cO=>exact⟨rfl,aI h hd (c8 hv) (.e (by simp only[E.eval,bQ];rfl) (.v rfl) fun _=>rfl)⟩
   ·cases bz
 ·rename_i ht
  obtain⟨l,hl',rfl⟩:=A0b.1 hl
  obtain⟨dl,eM,hrl⟩:=SV.toE_rd hl' hx
  obtain⟨d,bz,bQ⟩:=hb
  simp only[E.eval,eM,A0d] at bz
  unfold D.fP at bz
  split at bz
  ·rename_i s
   cases bz
   have hv:=hrl.v_eq
   exact⟨rfl,aI h hd (zA ho (v:=.int .i64 s.size) (by rw[hv];simp[Builtin.len_,run_underlying ht,goInt])) (.e (by simp only[E.eval,bQ]) (.v rfl) fun _=>rfl)⟩
  ·cases bz
 ·cases hl

theorem L_ {o:Oper} {d:Nat} {vs:Array Value} {cs:List SV} {ty:TypeId} (h:bE w0 X w a σ env ρ) (fu:o.dst=some d) (hd:d<σ.tmps.length) (wo:d<σ.mem.length) (hfree:σ.obj d=none) (kN:σ.aB d)
  (hl:vs.size=cs.length) (hone:∀(i:Nat) (v:Value),vs[i]? = some v→v.oneCell'=true) (hr:∀(i:Nat) (v:Value) (c:SV),vs[i]? = some v→cs[i]? = some c→cu w ρ env v c) (ael:SV.cR d cs=true)
  (hrun:(execOp a.eval o).run P w=.ok (.value (.pointer (some ⟨w.heap.size,0,none⟩))) (w.alloc (.cells vs ty))):cX P o a w w0 X ((σ.setObj d (some (.box cs))).put o.dst (.addr d 0)) env:=by
 have hk:bp ρ.S w (w.alloc (.cells vs ty)):=bp.alloc h.cells _
 have aG:=h.eo (o:=d) (x:=.box cs) (v:=undef) wo hfree kN hk (fun b hb=>gr w _ b hb) rfl ⟨rfl,A0m _⟩ rfl (by simp) ?_ ?_
 ·refine bq hrun (aG.put (by rw[fu];intro d' e;cases e;rw[af.aA];exact hd) ?_)
  have hbk:(ρ.eo d w.heap.size undef).bh d=w.heap.size:=by simp[cr.eo]
  have hp:cu (w.alloc (.cells vs ty)) (ρ.eo d w.heap.size undef) env (.pointer (some ⟨(ρ.eo d w.heap.size undef).bh d,0,none⟩)) (.addr d 0):=.addr
  rwa [hbk] at hp
 ·refine⟨vs,ty,?_,hl,hone,fun i v c hv hc=>(hr i v c hv hc).keep hk (ρ.sA _ _ _) fun o' e=>by subst e;exact SV.dV ael hc,fun off hs=>?_⟩
  ·simp only[cr.eo,if_true]
   exact heap_alloc_new w _
  ·have:=h.cells _ off hs
   simp[cr.eo] at this
 ·intro b hb
  simpa[bw,cr.eo] using hb.symm

theorem zO (d:Nat)(v:Value):(k_ v).aB d=true:=by unfold k_;split <;> rfl

theorem vp (d:Nat):∀(l:List Value),SV.cR d (l.map k_)=true
 | []=>rfl
 | v :: r=>by simp[SV.cR,zO,vp d r]

def xf (P:Program)(t:TypeId):Bool:=match(P.info? t).bind (·.zero) with | some z=>z.cells.toList.all (·.oneCell') | none=>false

theorem Ct {o:Oper} {t:TypeId} {r:bZ} (ho:o.op=.alloc t) (uU:xf P t=true) (hl:Cu P t o.dst=some r) (h:bE w0 X w a σ env ρ) (hd:∀d,o.dst=some d→d<σ.tmps.length) (hm:σ.mem.length=σ.tmps.length)
  (hfree:∀d,o.dst=some d→σ.obj d=none∧σ.aB d):∃d x,o.dst=some d∧r.cA=some (d,x)∧r.bind=none∧cX P o a w w0 X ((σ.setObj d (some x)).put o.dst r.val) env:=by
 unfold Cu at hl
 split at hl
 ·rename_i d cs fu hz
  cases hl
  unfold Ii at hz
  obtain⟨z,hz0,rfl⟩:=A0b.1 hz
  refine⟨d,_,fu,rfl,rfl,?_⟩
  have dY:=hd d fu
  obtain⟨hf,kN⟩:=hfree d fu
  have hrun:(execOp a.eval o).run P w=.ok (.value (.pointer (some ⟨w.heap.size,0,none⟩))) (w.alloc (.cells z.cells t)):=by
   unfold execOp
   simp only[ho,Instr.alloc,A0k,fS hz0,A0e,newVar,newRow,A0n,run_newObj]
   rfl
  refine L_ (vs:=z.cells) (cs:=z.cells.toList.map k_) h fu dY (Nat.lt_of_lt_of_eq dY hm.symm) hf kN (by simp) (fun i v hv=>?_) (fun i v c hv hc=>?_) (vp d _) hrun
  ·unfold xf at uU
   rw[hz0] at uU
   simp only[A0z] at uU
   exact uU v (B0i (by simpa using hv))
  ·simp only[A0v] at hc
   have fQ:z.cells.toList[i]? = some v:=by simpa using hv
   rw[fQ] at hc
   cases hc
   exact zN v
 ·cases hl

theorem SV.BT {n ix:Nat}{sv:SV}{cs:List SV}{b:Option Bind}{d:Nat}(h:sv.split n ix=some (cs,b))(ha:sv.aB d=true):SV.cR d cs=true:=by
 have all:∀(l:List SV),(∀c,c∈l→c.aB d=true)→SV.cR d l=true:=by
  intro l
  induction l with
  | nil=>intro _;rfl
  | cons c r ih=>intro hh;simp only[SV.cR,A0g];exact⟨hh c (by simp),ih fun x hx=>hh x (by simp[hx])⟩
 unfold SV.split at h
 split at h
 ·split at h
  ·cases h;simpa[SV.aB] using ha
  ·cases h
 ·split at h
  ·cases h
   refine all _ fun c hc=>?_
   simp only[B0r] at hc
   obtain⟨_,_,rfl⟩:=hc
   rfl
  ·cases h
 ·cases h
  refine all _ fun c hc=>?_
  simp only[B0r] at hc
  obtain⟨_,_,rfl⟩:=hc
  rfl
 ·cases h

theorem SV.zV {agg : Bool} {n ix : Nat} {obj : Nat → Option aE} {sv : SV} {cs : List SV} {b : Option Bind} {d : Nat} (h : sv.cellsOf agg n ix obj = some (cs, b)) (ha : sv.aB d = true) : SV.cR d cs = true := by
  unfold SV.cellsOf at h
  cases agg with
  | true => simp only [if_true] at h; exact SV.BT h ha
  | false =>
    simp only [B0f, if_false] at h
    split at h <;> first
      | (cases h; simp only [SV.cR, Bool.and_true]; first | exact ha | rfl)
      | (split at h
         · cases h; simpa [SV.cR] using ha
         · cases h)
      | cases h

theorem GQ {o:Oper} {t:TypeId} {x:Operand} {sx:SV} {ix:Nat} {r:bZ} (ho:o.op=.box t x) (hl:GS P t sx o.dst σ.obj ix=some r) (hx:cu w ρ env (a.eval x) sx) (h:bE w0 X w a σ env ρ) (hd:∀d,o.dst=some d→d<σ.tmps.length) (hm:σ.mem.length=σ.tmps.length)
  (hfree:∀d,o.dst=some d→σ.obj d=none∧σ.aB d∧sx.aB d=true) (hb:aY P env ix r.bind):∃d x,o.dst=some d∧r.cA=some (d,x)∧cX P o a w w0 X ((σ.setObj d (some x)).put o.dst r.val) env:=by
 unfold GS at hl
 split at hl
 ·rename_i d agg n fu hg hn
  obtain⟨⟨cs,b⟩,hcs,rfl⟩:=A0b.1 hl
  refine⟨d,_,fu,rfl,?_⟩
  have dY:=hd d fu
  obtain⟨hf,kN,adv⟩:=hfree d fu
  obtain⟨h1,h2,h3⟩:=SV.zU (P:=P) h.cn hcs hb hx
  have hrun:(execOp a.eval o).run P w=.ok (.value (.pointer (some ⟨w.heap.size,0,none⟩))) (w.alloc (.cells (a.eval x).cells t)):=by
   unfold execOp
   simp only[ho,Instr.box,A0k,A0e,newVar,newRow,A0n,run_newObj]
   rfl
  exact L_ h fu dY (Nat.lt_of_lt_of_eq dY hm.symm) hf kN h1 h2 h3 (SV.zV hcs adv) hrun
 ·cases hl

theorem toEAll_rd:∀{nP:List SV} {xs:List E} {vs:List Value},toEAll nP=some xs→vs.length=nP.length→(∀(i:Nat) (v:Value) (c:SV),vs[i]? = some v→nP[i]? = some c→cu w ρ env v c) →
  ∃ds,aq env xs=some ds∧vs.length=ds.length∧∀(i:Nat) (v:Value) (d:D),vs[i]? = some v→ds[i]? = some d→aZ w ρ.S v d
 | [],xs,vs,h,hl,_=>by
  simp[toEAll] at h;subst h
  have:vs=[]:=A0w (by simpa using hl)
  subst this
  exact⟨[],rfl,rfl,by simp⟩
 | s :: r,xs,vs,h,hl,hh=>by
  match vs,hl with
  | v :: vs,hl=>
   simp only[toEAll] at h
   split at h
   ·rename_i y z hy hz
    cases h
    obtain⟨d,hd,hrd⟩:=SV.toE_rd hy (hh 0 v s rfl rfl)
    obtain⟨ds,he,eM,hds⟩:=toEAll_rd (vs:=vs) hz (by simpa using hl) fun i v c hv hc=>hh (i+1) v c (by simpa using hv) (by simpa using hc)
    refine⟨d :: ds,by simp[aq,hd,he],by simp[eM],fun i v' d' hv dY=>?_⟩
    cases i with
    | zero=>simp at hv dY;subst hv dY;exact hrd
    | succ i=>exact hds i v' d' (by simpa using hv) (by simpa using dY)
   ·cases h

theorem vq (x:E):∀(rs:List Bool) (k i:Nat) (c:SV),(l7 x k rs)[i]? = some c→∃b,rs[i]? = some b∧c=.e (.au (k+i) x) b
 | [],_,_,_,h=>by simp[l7] at h
 | b :: r,k,0,c,h=>by simp[l7] at h;exact⟨b,rfl,h.symm⟩
 | b :: r,k,i+1,c,h=>by
  obtain⟨b',h1,h2⟩:=vq x r (k+1) i c (by simpa[l7] using h)
  exact⟨b',by simpa using h1,by rw[h2,show k+1+i=k+(i+1) from by omega]⟩

theorem pE (x:E):∀(rs:List Bool) (k:Nat),(l7 x k rs).length=rs.length
 | [],_=>rfl
 | _ :: r,k=>by simp[l7,pE x r]

theorem vO:∀{rs:List Bool} {ds:List D},oP rs ds=true→rs.length=ds.length∧∀(i:Nat) (b:Bool) (d:D),rs[i]? = some b→ds[i]? = some d→b=true→d.one=true
 | [],[],_=>⟨rfl,by simp⟩
 | [],_ :: _,h=>by simp[oP] at h
 | _ :: _,[],h=>by simp[oP] at h
 | b :: r,d :: s,h=>by
  simp only[oP,A0g,Bool.or_eq_true,Bool.not_eq_true'] at h
  obtain⟨h1,h2⟩:=vO h.2
  refine⟨by simp[h1],fun i b' d' hb hd ht=>?_⟩
  cases i with
  | zero=>simp at hb hd;subst hb hd;exact h.1.resolve_left (by simp[ht])
  | succ i=>exact h2 i b' d' (by simpa using hb) (by simpa using hd) ht

theorem iF {x:E}{rs:List Bool}{v:Value}{d:D}(hx:x.eval env=some d)(hr:aZ w ρ.S v d)(hfit:d.fits rs=true):cu w ρ env v (mU x rs):=by
 unfold mU
 split
 ·rename_i b
  simp only[D.fits,Bool.or_eq_true,Bool.not_eq_true'] at hfit
  exact .e hx hr fun P_=>hfit.resolve_left (by simp[P_])
 ·rename_i hne
  have Yc:∃ds,d=.aM ds∧oP rs ds=true:=by
   unfold D.fits at hfit
   split at hfit
   ·exact(hne _ rfl).elim
   ·split at hfit
    ·exact⟨_,rfl,hfit⟩
    ·cases hfit
  obtain⟨ds,rfl,hfa⟩:=Yc
  obtain⟨hfl,hfo⟩:=vO hfa
  obtain⟨vs,rfl,hvl,S5⟩:=hr.wE
  refine .aM (by rw[pE,hvl,hfl]) fun i v c hv tC=>?_
  obtain⟨b,hb',rfl⟩:=vq x rs 0 i c tC
  have hi:i<ds.length:=by rw[←hfl];exact(A0a.1 hb').1
  exact .e (d:=ds[i]) (by simp[E.eval,hx,D.au,hi]) (S5 i v _ hv (A0f hi)) fun P_=>hfo i b _ hb' (A0f hi) P_

theorem bE.behind {w':World}{S':Sets}(h:bE w0 X w a σ env ρ)(hb:Uz w.heap.size w w')(h1:ρ.S≤S')(hn:S'.n=ρ.S.n)(h2:∀b o,S' b o→ρ.S b o∨w.heap.size≤b)(h3:∀b o,S' b o→b<w'.heap.size):bE w0 X w' a σ env { ρ with S:=S' }:=by
 refine h.move (fun b o hs=>hb.cell (p:=⟨b,o,none⟩) (h.cells b o hs)) ⟨⟨fun _ _=>rfl,fun _ _=>rfl,h1⟩,fun _=>hn,fun _=>rfl⟩ (fun o x b ho hx=>hb.block b (h.own o x b ho hx).2) (fun o x b off ho hx hs=>?_) h3 hb.os hb.tl hb.output hb.size (fun b hlt _=>hb.block b (A0s hlt h.grown)) (fun b o hs=>(h2 b o hs).elim .inl fun e=>.inr (B0e h.grown e))
 rcases h2 b off hs with h4 | h4
 ·exact h4
 ·have:=(h.own o x b ho hx).2;omega

theorem eC (h:bE w0 X w a σ env ρ){cf:bV}{x:E}(hx:σ.obj aO=some (.store cf x)):∀b,ρ.an b→b<w.heap.size:=fun b hb=>(h.own aO _ b hx hb).2

theorem oQ {env:List D}:∀{xs:List E} {ds:List D},aq env (xs.map E.fO)=some ds→aq env xs=some ds∧dH ds=true
 | [],ds,h=>by
  simp only[List.map_nil,aq,A0u] at h
  subst h
  exact⟨rfl,rfl⟩
 | x :: r,ds,h=>by
  simp only[List.map_cons,aq,A0c,A0b] at h
  obtain⟨d,h1,ds',h2,rfl⟩:=h
  obtain⟨g1,g2⟩:=oQ h2
  simp only[E.eval,A0c] at h1
  obtain⟨d0,k1,_,_,_,_,_,_,k2⟩:=h1
  simp only[D.m4] at k2
  split at k2
  ·rename_i hn
   cases k2
   exact⟨by simp[aq,k1,g1],by simp[dH,hn,g2]⟩
  ·cases k2

theorem s_ {o : Oper} {f : FuncId} {vals : Array Value} {nP : List SV} {ix : Nat} {r : bZ} (hrun : ∀ fn, P.funcs[f]? = some fn → (fn.name == "runtime.NumGoroutine") = false → fn.body.isNone = false → (execOp a.eval o).run P w = .ok (.enter f vals) w)
  (hl:m9 P f nP σ.obj ix=some r) (hlen:vals.size=nP.length) (hx:∀(i:Nat) (x:Value) (s:SV),vals[i]? = some x→nP[i]? = some s→cu w ρ env x s) (h:bE w0 X w a σ env ρ) (hd:∀d,o.dst=some d→d<σ.tmps.length)
  (hb:aY P env ix r.bind):(r.cA=none∧cX P o a w w0 X (σ.put o.dst r.val) env)∨∃ob z,r.cA=some (ob,z)∧cX P o a w w0 X ((σ.setObj ob (some z)).put o.dst r.val) env:=by
 unfold m9 at hl
 split at hl
 ·rename_i fn hf
  split at hl
  ·cases hl
  ·rename_i hnb
   simp only[not_or,B0h] at hnb
   replace hrun:=hrun fn hf hnb.1 hnb.2
   split at hl
   ·rename_i rs xs cf hE jE hxs bW
    obtain⟨bs,eO,hst,_⟩:=h.cn _ _ bW
    obtain⟨ds',kW,eM,hrd⟩:=toEAll_rd (vs:=vals.toList) hxs (by simpa using hlen) (fun i v s hv hs=>hx i v s (by simpa using hv) hs)
    split at hl
    ·cases hl
     refine .inl ⟨rfl,fun Q=>?_⟩
     obtain⟨d,bQ,vL⟩:=hb
     obtain⟨st,ds,rQ,bz,hspec,hfit⟩:=vL (by intro p hp;cases hp)
     cases rQ
     obtain⟨bz,hno⟩:=oQ bz
     rw[bz] at kW
     cases kW
     rw[hrun]
     refine⟨fun e=>(by cases e),callsIn_wide.2 ?_⟩
     refine(eD.x8 hspec hno bs w ρ.S ρ.an bs vals rfl hst (h.ju bW) (eC h bW) h.cells (by simpa using eM) (fun i v x hv hx'=>hrd i v x (by simpa using hv) hx')).mono ?_
     rintro e w' ⟨v,S',⟨rfl,hr⟩,rS,hs1,FE,jH,Df⟩
     exact⟨_,(h.behind rS hs1 FE jH Df).put hd (iF (by simp only[E.eval,bQ]) hr hfit)⟩
    split at hl
    ·split at hl
     ·cases hl
     ·rename_i hro
      cases hl
      refine .inr ⟨aO,_,rfl,fun Q=>?_⟩
      obtain⟨st,d,h',rQ,bQ,vL,_⟩:=hb
      obtain⟨ds,bz,hspec,hfit⟩:=vL (by intro p hp;cases hp)
      rw[eO] at rQ
      cases rQ
      rw[bz] at kW
      cases kW
      rw[hrun]
      refine⟨fun e=>(by cases e),callsIn_wide.2 ?_⟩
      refine(hspec w ρ.S ρ.an bs vals rfl hst (h.ju bW) (eC h bW) h.cells (by simpa using eM) (fun i v x hv hx'=>hrd i v x (by simpa using hv) hx')).mono ?_
      rintro e w' ⟨v,S',bf,bs',⟨rfl,hr⟩,rfl,cL,hk,hS,hos,ht,hout,hsz,oY,hf',Bs,CL⟩
      have aG:=h.eI (x':=.au 1 (.sym ix)) bW (by simpa using hro) (by simp only[E.eval,bQ];rfl) cL hk hS hos ht hout hsz oY hf' Bs CL
      exact⟨_,aG.put (by rw[af.aA];exact hd) (iF (by simp only[E.eval,bQ];rfl) hr hfit)⟩
    ·cases hl
     refine .inl ⟨rfl,fun Q=>?_⟩
     obtain⟨d,bQ,vL⟩:=hb
     obtain⟨st,ds,rQ,bz,hspec,hfit⟩:=vL (by intro p hp;cases hp)
     rw[eO] at rQ
     cases rQ
     rw[bz] at kW
     cases kW
     rw[hrun]
     refine⟨fun e=>(by cases e),callsIn_wide.2 ?_⟩
     refine(hspec w ρ.S ρ.an bs vals rfl hst (h.ju bW) (eC h bW) h.cells (by simpa using eM) (fun i v x hv hx'=>hrd i v x (by simpa using hv) hx')).mono ?_
     rintro e w' ⟨v,S',⟨rfl,hr⟩,rS,hs1,FE,jH,Df⟩
     exact⟨_,(h.behind rS hs1 FE jH Df).put hd (iF (by simp only[E.eval,bQ]) hr hfit)⟩
   ·cases hl
 ·cases hl

theorem Ek {o:Oper} {f:FuncId} {c:Operand} {args:Array Operand} {ts:Array TypeId} {nP:List SV} {ix:Nat} {r:bZ} (ho:o.op=.call { callee:=.value c,args:=args,argTypes:=ts }) (hc:a.eval c=.func (.func f) #[] #[])
  (hl:m9 P f nP σ.obj ix=some r) (hlen:args.size=nP.length) (hx:∀(i:Nat) (x:Operand) (s:SV),args[i]? = some x→nP[i]? = some s→cu w ρ env (a.eval x) s) (h:bE w0 X w a σ env ρ) (hd:∀d,o.dst=some d→d<σ.tmps.length)
  (hb:aY P env ix r.bind):(r.cA=none∧cX P o a w w0 X (σ.put o.dst r.val) env)∨∃ob z,r.cA=some (ob,z)∧cX P o a w w0 X ((σ.setObj ob (some z)).put o.dst r.val) env:=by
 refine s_ (vals:=args.map a.eval) (fun fn hf h1 h2=>?_) hl (by simpa using hlen) (fun i v s hv hs=>?_) h hd hb
 ·unfold execOp
  simp only[ho,resolve,hc,Deferred.ofValue,invoke,A0k,A0n,A0e,callFunc,run_program,hf,h1,h2,B0f,if_false]
  simp
 ·simp only[Array.getElem?_map,A0b] at hv
  obtain⟨x,hx',rfl⟩:=hv
  exact hx i x s hx' hs

def Cc (P:Program)(t:TypeId)(name:String):Option FuncId:=
 match P.info? t,P.underlying t with
 | some i,some (.pointer _)=>(match i.methods.find? (·.name==name) with
  | some m=>if m.path.isEmpty=true then(match m.func with
   | some (f,true)=>some f
   | _=>none) else none
  | none=>none)
 | _,_=>none

def wO (P:Program)(t:TypeId)(name:String):Option (FuncId×Nat):=
 match P.info? t,P.underlying t with
 | some i,some (.pointer e)=>(match i.methods.find? (·.name==name) with
  | some m=>if m.path.isEmpty=true∧iy P e=some false then(match m.func with
   | some (f,false)=>(o6 P e).map fun n=>(f,n)
   | _=>none) else none
  | none=>none)
 | _,_=>none

def linv (P:Program)(o:Oper)(rv:SV)(name:String)(args:List SV)(obj:Nat→Option aE)(ix:Nat):Option bZ:=
 match obj aO,o.dst,rv.toE with
 | some (.store cf _),some d,some r'=>(cf.yU.lookup d).bind fun t=>match Cc P t name with
  | some f=>m9 P f (.e (.m4 (.ed t) r' .nil .nil .nil) false :: args) obj ix
  | none=>(wO P t name).bind fun p=>m9 P p.1 (.e (.ld false p.2 (UT obj) (.m4 (.ed t) r' .nil .nil .nil)) false :: args) obj ix
 | _,_,_=>none

theorem Gb {t:TypeId}{f:FuncId}{v:Value}{name:String}(h:Cc P t name=some f)(n:Nat):(method (n+1) t v name).run P w=.ok (f,v) w:=by
 unfold Cc at h
 split at h
 ·rename_i i e hi hu
  split at h
  ·rename_i m hm
   split at h
   ·rename_i hp
    split at h
    ·rename_i hf
     cases h
     have hp':m.path=#[]:=by simpa using hp
     simp[method,typeInfo,hi,hm,hp',follow,hf,receiverAt,run_underlying hu,Place.get]
    ·cases h
   ·cases h
  ·cases h
 ·cases h

theorem DB {xt:TypeId}{a:Addr}{s m:String}:(Builtin.ssaWrapNilChk_ #[xt] xt #[.pointer (some a),strVal s,strVal m]).run P w=.ok (.pointer (some a)) w:=rfl

theorem DC {t e:TypeId}{f:FuncId}{m:Nat}{b off:Nat}{u:Value}{name:String}(h:wO P t name=some (f,m))(hu:P.underlying t=some (.pointer e))(hl:(loadVar e ⟨b,off,none⟩).run P w=.ok u w)(n:Nat):(method (n+1) t (.pointer (some ⟨b,off,none⟩)) name).run P w=.ok (f,u) w:=by
 unfold wO at h
 split at h
 ·rename_i i e' hi jf
  rw[hu] at jf
  cases jf
  split at h
  ·rename_i m' hm
   split at h
   ·rename_i hp
    split at h
    ·rename_i f' hf
     obtain⟨k,_,hk⟩:=A0b.1 h
     cases hk
     have hp':m'.path=#[]:=by simpa using hp.1
     simp[method,typeInfo,hi,hm,hp',follow,hf,receiverAt,run_underlying hu,Place.get,DB,asAddr,hl]
    ·cases h
   ·cases h
  ·cases h
 ·cases h

theorem El {f:FuncId}{nP:List SV}{obj:Nat→Option aE}{ix:Nat}{r:bZ}(hl:m9 P f nP obj ix=some r)(hb:aY P env ix r.bind):∃xs ds,toEAll nP=some xs∧aq env xs=some ds:=by
 have nil:aQ env []:=by intro p hp;cases hp
 unfold m9 at hl
 split at hl
 ·split at hl
  ·cases hl
  ·split at hl
   ·rename_i rs xs cf hE jE hxs bW
    refine⟨xs,?_⟩
    split at hl
    ·cases hl
     obtain⟨d,_,vL⟩:=hb
     obtain⟨st,ds,_,bz,_⟩:=vL nil
     exact⟨ds,hxs,(oQ bz).1⟩
    ·split at hl
     ·split at hl
      ·cases hl
      ·cases hl
       obtain⟨st,d,h',_,_,vL,_⟩:=hb
       obtain⟨ds,bz,_⟩:=vL nil
       exact⟨ds,hxs,bz⟩
     ·cases hl
      obtain⟨d,_,vL⟩:=hb
      obtain⟨st,ds,_,bz,_⟩:=vL nil
      exact⟨ds,hxs,bz⟩
   ·cases hl
 ·cases hl

theorem GJ {o:Oper} {rc:Operand} {name:String} {args:Array Operand} {ts:Array TypeId} {aH:Operand→SV} {ix:Nat} {r:bZ} (ho:o.op=.call { callee:=.invoke rc name,args:=args,argTypes:=ts }) (hv:∀x,cu w ρ env (a.eval x) (aH x))
  (hl:linv P o (aH rc) name (args.toList.map aH) σ.obj ix=some r) (h:bE w0 X w a σ env ρ) (hd:∀d,o.dst=some d→d<σ.tmps.length) (hb:aY P env ix r.bind) :
  (r.cA=none∧cX P o a w w0 X (σ.put o.dst r.val) env)∨∃ob z,r.cA=some (ob,z)∧cX P o a w w0 X ((σ.setObj ob (some z)).put o.dst r.val) env:=by
 unfold linv at hl
 split at hl
 ·rename_i cf hh d r' bW fu hr'
  obtain⟨t,ht,hl⟩:=A0c.1 hl
  obtain⟨dr,wX,Rm⟩:=SV.toE_rd hr' (hv rc)
  have MP:∀{d0:D},D.ed t dr=some d0→∃v,a.eval rc=.iface t v∧aZ w ρ.S v d0:=by
   intro d0 EK
   have ad5:dr=.fq t d0:=by
    unfold D.ed at EK
    split at EK
    ·split at EK
     ·rename_i e
      cases EK
      rw[e]
     ·cases EK
    ·cases EK
   subst ad5
   generalize a.eval rc=u at Rm
   cases Rm
   exact⟨_,rfl,by assumption⟩
  have fin:∀{f:FuncId} {x0:E} {v u:Value} {d1:D},a.eval rc=.iface t v→(∀n,(method (n+1) t v name).run P w=.ok (f,u) w)→x0.eval env=some d1→aZ w ρ.S u d1→m9 P f (.e x0 false :: args.toList.map aH) σ.obj ix=some r→(r.cA=none∧cX P o a w w0 X (σ.put o.dst r.val) env)∨∃ob z,r.cA=some (ob,z)∧cX P o a w w0 X ((σ.setObj ob (some z)).put o.dst r.val) env:=by
   intro f x0 v u d1 MN hm' hx0 G1 hl
   refine s_ (vals:=#[u]++args.map a.eval) (fun fn hfn h1 h2=>?_) hl (by simp;omega) (fun i u' s hu hs=>?_) h hd hb
   ·obtain⟨n,hn⟩:∃n,P.types.size+Made.depth=n+1:=⟨P.types.size+Made.depth-1,by simp[Made.depth]⟩
    have hm:=hm' n
    have yZ:(#[Value.iface t v]++args.map a.eval).extract 1 (#[Value.iface t v]++args.map a.eval).size=args.map a.eval:=by simp
    have h0:(#[Value.iface t v]++args.map a.eval)[0]? = some (.iface t v):=by rw[Array.getElem?_append_left (by simp)];rfl
    unfold execOp
    simp only[ho,resolve,invoke,A0k,A0n,A0e,MN,h0,callMethod,yZ,run_program,hn,hm,callFunc,hfn,h1,h2,B0f,if_false]
   ·cases i with
    | zero=>
     rw[Array.getElem?_append_left (by simp)] at hu
     simp at hu hs
     subst hu hs
     exact .e hx0 G1 (by simp)
    | succ i=>
     rw[Array.getElem?_append_right (by simp)] at hu
     simp only[List.size_toArray,List.length_cons,List.length_nil,B0k,Nat.add_sub_cancel,Array.getElem?_map,A0b,List.getElem?_cons_succ,A0v] at hu hs
     obtain⟨x,hx,rfl⟩:=hu
     obtain⟨y,hy,rfl⟩:=hs
     rw[Array.getElem?_toList,hx] at hy
     cases hy
     exact hv x
  have Ye:∀{f:FuncId} {x0:E},m9 P f (.e x0 false :: args.toList.map aH) σ.obj ix=some r→∃d1,x0.eval env=some d1:=by
   intro f x0 hl
   obtain⟨xs,ds,hxs,bz⟩:=El hl hb
   obtain⟨ys,rfl⟩:∃ys,xs=x0 :: ys:=by
    simp only[toEAll,SV.toE] at hxs
    split at hxs
    ·rename_i h1 h2
     cases h1
     cases hxs
     exact⟨_,rfl⟩
    ·cases hxs
   simp only[aq] at bz
   obtain⟨d0,h1,_⟩:=A0c.1 bz
   exact⟨d0,h1⟩
  split at hl
  ·rename_i f hf
   obtain⟨d0,P8⟩:=Ye hl
   have EK:D.ed t dr=some d0:=by simpa only[E.eval,wX,A0d,D.m4] using P8
   obtain⟨v,MN,S5⟩:=MP EK
   exact fin MN (fun n=>Gb hf n) P8 S5 hl
  ·obtain⟨⟨f,m⟩,hf,hl⟩:=A0c.1 hl
   obtain⟨d1,CK⟩:=Ye hl
   have Yi:=CK
   simp only[E.eval,A0c] at Yi
   obtain⟨dh,hhe,d0,P8,OK⟩:=Yi
   obtain⟨a1,ha1,_,_,_,_,_,_,EK⟩:=P8
   rw[wX] at ha1
   cases ha1
   have EK:D.ed t dr=some d0:=EK
   obtain⟨v,MN,S5⟩:=MP EK
   obtain⟨bs,rfl,hst⟩:=EM h hhe
   obtain⟨e,hu,hg,hn⟩:∃e,P.underlying t=some (.pointer e)∧iy P e=some false∧o6 P e=some m:=by
    unfold wO at hf
    split at hf
    ·rename_i i e' hi jf
     split at hf
     ·split at hf
      ·rename_i hp
       split at hf
       ·obtain⟨k,hk1,hk⟩:=A0b.1 hf
        cases hk
        exact⟨_,jf,hp.2,hk1⟩
       ·cases hf
      ·cases hf
     ·cases hf
    ·cases hf
   obtain⟨b,off,u,fQ,hrun,CE,_⟩:=Cn hg hn S5 hst OK
   subst fQ
   exact fin MN (fun n=>DC hf hu hrun n) CK CE hl
 ·cases hl

theorem NG {α:Type}{us vs ws:List α}{β:Type}{as bs cs:List β}{R:α→β→Prop}(h1:us.length=as.length)(h2:vs.length=bs.length)(g1:∀(i:Nat) u a,us[i]? = some u→as[i]? = some a→R u a)(g2:∀(i:Nat) u a,vs[i]? = some u→bs[i]? = some a→R u a)(g3:∀(i:Nat) u a,ws[i]? = some u→cs[i]? = some a→R u a) :
  ∀(i:Nat) u a,(us++vs++ws)[i]? = some u→(as++bs++cs)[i]? = some a→R u a:=by
 intro i u a hu ha
 rw[B0b] at hu ha
 rcases Nat.lt_or_ge i us.length with h | h
 ·rw[A0j h] at hu
  rw[A0j (by omega)] at ha
  exact g1 i u a hu ha
 ·rw[A0l h] at hu
  rw[A0l (by omega)] at ha
  rw[←h1] at ha
  rcases Nat.lt_or_ge (i-us.length) vs.length with h' | h'
  ·rw[A0j h'] at hu
   rw[A0j (by omega)] at ha
   exact g2 _ u a hu ha
  ·rw[A0l h'] at hu
   rw[A0l (by omega)] at ha
   rw[←h2] at ha
   exact g3 _ u a hu ha

theorem Cp {o:Oper} {c:Operand} {xe:E} {sb:Bool} {args:Array Operand} {ts:Array TypeId} {nP:List SV} {ix:Nat} {r:bZ} (ho:o.op=.call { callee:=.value c,args:=args,argTypes:=ts }) (hc:cu w ρ env (a.eval c) (.e xe sb))
  (hl:Cq P xe nP o σ.obj ix=some r) (hlen:args.size=nP.length) (hx:∀(i:Nat) (x:Operand) (s:SV),args[i]? = some x→nP[i]? = some s→cu w ρ env (a.eval x) s) (h:bE w0 X w a σ env ρ) (hd:∀d,o.dst=some d→d<σ.tmps.length)
  (hb:aY P env ix r.bind):(r.cA=none∧cX P o a w w0 X (σ.put o.dst r.val) env)∨∃ob z,r.cA=some (ob,z)∧cX P o a w w0 X ((σ.setObj ob (some z)).put o.dst r.val) env:=by
 unfold Cq at hl
 split at hl
 ·rename_i rs xs cf hE jE hxs bW
  obtain⟨bs,eO,hst,_⟩:=h.cn _ _ bW
  obtain⟨dc,hdc,hrc,_⟩:=hc.gj
  obtain⟨ds',kW,eM,hrd⟩:=toEAll_rd (vs:=(args.map a.eval).toList) hxs (by simpa using hlen) (fun i v s hv hs=>by
   simp only[Array.toList_map,A0v,A0b] at hv
   obtain⟨x,hx',rfl⟩:=hv
   exact hx i x s (by simpa using hx') hs)
  have enter:∀{f:FuncId} {us cs:List D},dc=.fn f us cs→bu P f=true→∃uv cv:Array Value,(execOp a.eval o).run P w=.ok (.enter f (uv++args.map a.eval++cv)) w∧uv.size=us.length∧cv.size=cs.length ∧
    (∀(i:Nat) (v:Value) (d:D),uv[i]? = some v→us[i]? = some d→aZ w ρ.S v d)∧∀(i:Nat) (v:Value) (d:D),cv[i]? = some v→cs[i]? = some d→aZ w ρ.S v d:=by
   intro f us cs he dP
   subst he
   generalize hv:a.eval c=v at hrc
   cases hrc with
   | @fn _ uv cv _ _ h1 h2 h3 h4=>
    refine⟨uv,cv,?_,h1,h2,h3,h4⟩
    unfold bu at dP
    split at dP
    ·rename_i fn hf
     simp only[A0g,Bool.not_eq_true',Option.isSome_iff_ne_none] at dP
     have I8:fn.body.isNone=false:=by
      cases hb:fn.body with
      | none=>exact absurd hb dP.2
      | some _=>rfl
     unfold execOp
     simp only[ho,resolve,hv,Deferred.ofValue,invoke,A0k,A0n,A0e,callFunc,run_program,hf,dP.1,I8,B0f,if_false]
    ·cases dP
  split at hl
  ·split at hl
   ·cases hl
   ·rename_i hro
    cases hl
    refine .inr ⟨aO,_,rfl,fun Q=>?_⟩
    obtain⟨st,d,h',rQ,bQ,vL,_⟩:=hb
    obtain⟨xd,ds,wV,bz,kB,hfit⟩:=vL (by intro p hp;cases hp)
    rw[hdc] at wV
    cases wV
    rw[eO] at rQ
    cases rQ
    rw[bz] at kW
    cases kW
    unfold t_ at kB
    split at kB
    ·rename_i f us cs
     obtain⟨dP,hspec⟩:=kB
     obtain⟨uv,cv,hrun,Bp,Nq,G1,Np⟩:=enter rfl dP
     rw[hrun]
     refine⟨fun e=>(by cases e),callsIn_wide.2 ?_⟩
     refine(hspec w ρ.S ρ.an bs _ rfl hst (h.ju bW) (eC h bW) h.cells (by simp at eM;simp[Bp,Nq,eM]) (fun i v x hv hx'=>NG (us:=uv.toList) (vs:=(args.map a.eval).toList) (ws:=cv.toList) (R:=fun v x=>aZ w ρ.S v x) (by simpa using Bp) eM (fun i u x hu hx=>G1 i u x (by simpa using hu) hx) hrd (fun i u x hu hx=>Np i u x (by simpa using hu) hx) i v x (by rw[←Array.toList_append,←Array.toList_append,Array.getElem?_toList];exact hv) hx')).mono ?_
     rintro e w' ⟨v,S',bf,bs',⟨rfl,hr⟩,rfl,cL,hk,hS,hos,ht,hout,hsz,oY,hf',Bs,CL⟩
     have aG:=h.eI (x':=.au 1 (.sym ix)) bW (by simpa using hro) (by simp only[E.eval,bQ];rfl) cL hk hS hos ht hout hsz oY hf' Bs CL
     exact⟨_,aG.put (by rw[af.aA];exact hd) (iF (by simp only[E.eval,bQ];rfl) hr hfit)⟩
    ·rename_i l rec sl bF
     obtain⟨rfl,hspec⟩:=kB
     obtain⟨l',f,tmps,assign,body,FD,hrun,rR⟩:=hspec w ρ.S ρ.an bs (args.map a.eval) (a.eval c) rfl hst (h.ju bW) (eC h bW) h.cells hrc (by simpa using eM) (fun i v x hv hx'=>hrd i v x (by simpa using hv) hx')
     have MW:(execOp a.eval o).run P w=.ok (.round l' f tmps assign body) w:=by
      unfold execOp
      simp only[ho,resolve,FD,Deferred.ofValue,invoke,A0k,A0n,A0e]
      simpa using hrun
     rw[MW]
     refine⟨fun e=>(by cases e),rR.mono ?_⟩
     rintro e w' ⟨S',bf,bs',rfl,rfl,cL,hk,hS,hos,ht,hout,hsz,oY,hf',Bs,CL⟩
     have aG:=h.eI (x':=.au 1 (.sym ix)) bW (by simpa using hro) (by simp only[E.eval,bQ];rfl) cL hk hS hos ht hout hsz oY hf' Bs CL
     exact⟨_,aG.put (by rw[af.aA];exact hd) (iF (by simp only[E.eval,bQ];rfl) (.v rfl) hfit)⟩
    ·rename_i l rec sl bF
     obtain⟨b,rfl,hspec⟩:=kB
     obtain⟨l',f,tmps,assign,body,FD,hrun,rR⟩:=hspec w ρ.S ρ.an bs (args.map a.eval) (a.eval c) rfl hst (h.ju bW) (eC h bW) h.cells hrc (by simpa using eM) (fun i v x hv hx'=>hrd i v x (by simpa using hv) hx')
     have MW:(execOp a.eval o).run P w=.ok (.round l' f tmps assign body) w:=by
      unfold execOp
      simp only[ho,resolve,FD,Deferred.ofValue,invoke,A0k,A0n,A0e]
      simpa using hrun
     rw[MW]
     refine⟨fun e=>(by cases e),rR.mono ?_⟩
     rintro e w' ⟨S',bf,bs',rfl,rfl,cL,hk,hS,hos,ht,hout,hsz,oY,hf',Bs,CL⟩
     have aG:=h.eI (x':=.au 1 (.sym ix)) bW (by simpa using hro) (by simp only[E.eval,bQ];rfl) cL hk hS hos ht hout hsz oY hf' Bs CL
     exact⟨_,aG.put (by rw[af.aA];exact hd) (iF (by simp only[E.eval,bQ];rfl) (.v rfl) hfit)⟩
    ·exact kB.elim
  ·cases hl
   refine .inl ⟨rfl,fun Q=>?_⟩
   obtain⟨d,bQ,vL⟩:=hb
   obtain⟨f,us,cs,st,ds,wV,dP,rQ,bz,hspec,hfit⟩:=vL (by intro p hp;cases hp)
   rw[hdc] at wV
   cases wV
   obtain⟨uv,cv,hrun,Bp,Nq,G1,Np⟩:=enter rfl dP
   rw[eO] at rQ
   cases rQ
   rw[bz] at kW
   cases kW
   rw[hrun]
   refine⟨fun e=>(by cases e),callsIn_wide.2 ?_⟩
   refine(hspec w ρ.S ρ.an bs _ rfl hst (h.ju bW) (eC h bW) h.cells (by simp at eM;simp[Bp,Nq,eM]) (fun i v x hv hx'=>NG (us:=uv.toList) (vs:=(args.map a.eval).toList) (ws:=cv.toList) (R:=fun v x=>aZ w ρ.S v x) (by simpa using Bp) eM (fun i u x hu hx=>G1 i u x (by simpa using hu) hx) hrd (fun i u x hu hx=>Np i u x (by simpa using hu) hx) i v x (by rw[←Array.toList_append,←Array.toList_append,Array.getElem?_toList];exact hv) hx')).mono ?_
   rintro e w' ⟨v,S',⟨rfl,hr⟩,rS,hs1,FE,jH,Df⟩
   exact⟨_,(h.behind rS hs1 FE jH Df).put hd (iF (by simp only[E.eval,bQ]) hr hfit)⟩
 ·cases hl

theorem D_ {o:Oper} {fn:Fn} {first bF:Array Operand} {fs cs:List SV} {ix:Nat} {r:bZ} (ho:o.op=.makeFunc fn first bF) (hl:Mo fn fs cs ix=some r) (hfl:first.size=fs.length) (dP:bF.size=cs.length)
  (hf:∀(i:Nat) (x:Operand) (s:SV),first[i]? = some x→fs[i]? = some s→cu w ρ env (a.eval x) s) (hc:∀(i:Nat) (x:Operand) (s:SV),bF[i]? = some x→cs[i]? = some s→cu w ρ env (a.eval x) s)
  (h:bE w0 X w a σ env ρ) (hd:∀d,o.dst=some d→d<σ.tmps.length) (hb:aY P env ix r.bind):r.cA=none∧cX P o a w w0 X (σ.put o.dst r.val) env:=by
 unfold Mo at hl
 split at hl
 ·rename_i f x y hx hy
  cases hl
  have go:∀{os:Array Operand} {ss:List SV} {x:E},SV.toTs ss=some x→os.size=ss.length→(∀(i:Nat) (x:Operand) (s:SV),os[i]? = some x→ss[i]? = some s→cu w ρ env (a.eval x) s) →
    ∃ds,x.eval env=some (.aM ds)∧(os.map a.eval).size=ds.length∧∀(i:Nat) (v:Value) (d:D),(os.map a.eval)[i]? = some v→ds[i]? = some d→aZ w ρ.S v d:=by
   intro os ss x hx hl hh
   obtain⟨ds,h1,h2,h3⟩:=SV.toTs_rd (w:=w) (ρ:=ρ) (env:=env) (vs:=(os.map a.eval).toList) hx (by simpa using hl) (fun i v c hv hc=>by
    simp only[Array.toList_map,A0v,A0b] at hv
    obtain⟨z,hz,rfl⟩:=hv
    exact hh i z c (by simpa using hz) hc)
   exact⟨ds,h1,by simpa using h2,fun i v d hv hd=>h3 i v d (by simpa using hv) hd⟩
  obtain⟨us,h1,h2,h3⟩:=go hx hfl hf
  obtain⟨es,h4,h5,h6⟩:=go hy dP hc
  obtain⟨d,he,bQ⟩:=hb
  simp only[E.eval,h1,h4,A0d,D.dO] at he
  cases he
  refine⟨rfl,aI h hd (v:=.func (.func f) (first.map a.eval) (bF.map a.eval)) ?_ (.e (d:=.fn f us es) (by simp[E.eval,bQ]) (.fn h2 h5 h3 h6) fun _=>rfl)⟩
  unfold execOp
  simp[ho,Instr.makeFunc]
 ·cases hl

end
end
end

section
noncomputable section

def Ot (p q:Nat×Nat):Bool:=decide (p.1+p.2≤q.1)||decide (q.1+q.2≤p.1)

def Al (place:Nat→Option (Nat×Nat))(p:Nat×Value)(k:Nat):Prop:=∃off size,place p.1=some (off,size)∧off≤k∧k<off+size

theorem w4 {place : Nat → Option (Nat × Nat)} : ∀ (parts : List (Nat × Value)) (cells : Array Value), (∀ p, p ∈ parts → ∃ off, place p.1 = some (off, p.2.cells.size) ∧ off + p.2.cells.size ≤ cells.size) →
  ∃ r, Instr.fill place cells parts = some r ∧ r.size = cells.size ∧ ∀ k, k < cells.size →
   ((∀ p, p ∈ parts → ¬ Al place p k) → r[k]? = cells[k]?) ∧
   (∀ p off, p ∈ parts → place p.1 = some (off, p.2.cells.size) → off ≤ k → k < off + p.2.cells.size → (∀ q, q ∈ parts → q ≠ p → ¬ Al place q k) → r[k]? = p.2.cells[k - off]?)
 | [], cells, _ => ⟨cells, rfl, rfl, fun k _ => ⟨fun _ => rfl, fun p off hp => by cases hp⟩⟩
 | (i, v) :: parts, cells, h => by
  obtain ⟨off, qA, hle⟩ := h (i, v) (by simp)
  obtain ⟨g1, g2⟩ := Great.foldl_set off v.cells.toList 0 cells
  obtain ⟨r, hr, hsz, hk⟩ := w4 (place := place) parts ((v.cells.toList.zipIdx 0).foldl (fun cs (x : Value × Nat) => cs.setIfInBounds (off + x.2) x.1) cells) (fun p hp => by
   obtain ⟨o, h1, h2⟩ := h p (by simp [hp])
   exact ⟨o, h1, by rw [g1]; exact h2⟩)
  refine ⟨r, ?_, by rw [hsz, g1], fun k hkc => ?_⟩
  ·unfold Instr.fill
   simp only [qA]
   simp only at hle
   rw [if_neg (by simp; omega)]
   rw [← hr]
   congr 1
   rw [← Array.foldl_toList, Array.toList_zipIdx]
  ·obtain ⟨hk1, hk2⟩ := hk k (by rw [g1]; exact hkc)
   have hg := g2 k
   simp only [Nat.add_zero, B0j] at hg
   refine ⟨fun hnc => ?_, fun p o hp XT h1 h2 hne => ?_⟩
   ·rw [hk1 fun p hp => hnc p (by simp [hp]), hg, if_neg fun hc => hnc (i, v) (by simp) ⟨off, _, qA, hc.1, hc.2.1⟩]
   ·rcases B0t.1 hp with rfl | hp'
    ·by_cases hin : (i, v) ∈ parts
     ·exact hk2 (i, v) o hin XT h1 h2 fun q hq hqp => hne q (by simp [hq]) hqp
     ·rw [hk1 fun q hq => hne q (by simp [hq]) fun e => hin (e ▸ hq), hg]
      simp only at XT qA h2
      rw [qA] at XT
      cases XT
      rw [if_pos ⟨h1, h2, hkc⟩]
      simp
    ·exact hk2 p o hp' XT h1 h2 fun q hq hqp => hne q (by simp [hq]) hqp

theorem gb {α:Type}:∀{l:List (Nat×α)} {p q:Nat×α},(l.map (·.1)).Nodup→p∈l→q∈l→p.1=q.1→p=q
 | [],p,q,_,h,_,_=>by cases h
 | a :: l,p,q,hn,hp,hq,he=>by
  simp only[List.map_cons,List.nodup_cons] at hn
  rcases B0t.1 hp with rfl | hp' <;> rcases B0t.1 hq with rfl | G5
  ·rfl
  ·exact(hn.1 (B0r.2 ⟨q,G5,he.symm⟩)).elim
  ·exact(hn.1 (B0r.2 ⟨p,hp',he⟩)).elim
  ·exact gb hn.2 hp' G5 he

/-! ## literals of parts of one cell each -/

def oV (obj:Nat→Option aE):SV→Option SV
 | .e x true=>some (.e x true)
 | .kF o=>(match obj o with | some (.row _ _)=>some (.kF o) | _=>none)
 | .addr o f=>some (.addr o f)
 | .func (.func f) cs=>some (.func (.func f) cs)
 | _=>none

def DN (z:Value)(parts:List (Nat×Option SV))(i:Nat):Option SV:=
 match parts.find? (fun p=>p.1==i) with
 | some p=>p.2
 | none=>(z.cells[i]?).bind fun v=>(D.qS v).bind fun d=>if d.one=true then some (.e (.const d) true) else none

def xY (z:Value)(parts:List (Nat×Option SV)):Nat→Option (List SV)
 | 0=>some []
 | n+1=>(xY z parts n).bind fun l=>(DN z parts n).map fun s=>l++[s]

def NL (P:Program)(t:TypeId)(n:Nat):Bool:=
 match P.underlying t with
 | some (.struct fields)=>decide (fields.toList.mapM (fun f=>(P.info? f.type).map fun i=>(f.offset,i.size))=some ((List.range n).map fun i=>(i,1)))
 | some (.array _ e)=>(match P.info? e with | some ie=>decide (ie.size=1) | none=>false)
 | _=>false

def wR (P:Program)(t:TypeId)(parts:List (Nat×Operand))(aH:Operand→SV)(obj:Nat→Option aE):Option bZ:=
 match P.info? t with
 | some it=>(match it.zero with
  | some z=>if NL P t z.cells.size=true∧(parts.map (·.1)).Nodup∧parts.all (fun p=>decide (p.1<z.cells.size))=true then(xY z (parts.map fun p=>(p.1,oV obj (aH p.2))) z.cells.size).map fun l=>{ val:=.agg l } else none
  | none=>none)
 | none=>none

section
variable {P:Program} {w w0:World} {X:gB} {a:Act} {σ:af} {env:List D} {ρ:cr}

theorem xX {z:Value}{parts:List (Nat×Option SV)}:∀{n:Nat} {l:List SV},xY z parts n=some l→l.length=n∧∀i,i<n→∃s,l[i]? = some s∧DN z parts i=some s
 | 0,l,h=>by
  simp only[xY,A0u] at h
  subst h
  exact⟨rfl,fun i hi=>by omega⟩
 | n+1,l,h=>by
  simp only[xY,A0c,A0b] at h
  obtain⟨l',h1,s,h2,rfl⟩:=h
  obtain⟨g1,g2⟩:=xX h1
  refine⟨by simp[g1],fun i hi=>?_⟩
  by_cases hin:i<n
  ·obtain⟨s',k1,k2⟩:=g2 i hin
   exact⟨s',by rw[A0j (by omega)];exact k1,k2⟩
  ·obtain rfl:i=n:=by omega
   exact⟨s,by rw[A0l (by omega),g1];simp,h2⟩

theorem DP {sv s:SV}{v:Value}(h:oV σ.obj sv=some s)(hr:cu w ρ env v sv)(ea:∀o y,σ.obj o=some y→fI w ρ env o y):cu w ρ env v s∧v.oneCell'=true:=by
 unfold oV at h
 split at h
 ·cases h
  obtain⟨d,_,h2,h3⟩:=hr.gj
  exact⟨hr,h2.one (h3 rfl)⟩
 ·rename_i o
  split at h
  ·rename_i x sz ho
   cases h
   obtain⟨vs,ty,es,_,_,_,_,_,hval,_⟩:=ea o _ ho
   refine⟨hr,?_⟩
   rw[hr.nT,hval]
   rfl
  ·cases h
 ·cases h
  refine⟨hr,?_⟩
  rw[hr.iN]
  rfl
 ·cases h
  obtain⟨vs,hv,_⟩:=hr.lS
  refine⟨hr,?_⟩
  rw[hv]
  rfl
 ·cases h

theorem AE {o:Oper} {t:TypeId} {parts:Array (Nat×Operand)} {aH:Operand→SV} {r:bZ} (ho:o.op=.build t parts) (hv:∀x,cu w ρ env (a.eval x) (aH x)) (hl:wR P t parts.toList aH σ.obj=some r) (h:bE w0 X w a σ env ρ)
  (hd:∀d,o.dst=some d→d<σ.tmps.length):r.cA=none∧cX P o a w w0 X (σ.put o.dst r.val) env:=by
 unfold wR at hl
 split at hl
 ·rename_i it hit
  split at hl
  ·rename_i z hz
   split at hl
   ·rename_i hc
    obtain⟨nq,hnd,hin⟩:=hc
    obtain⟨l,hl',rfl⟩:=A0b.1 hl
    refine⟨rfl,?_⟩
    obtain⟨M8,iY⟩:=xX hl'
    have hlt:∀p,p∈parts.toList→p.1<z.cells.size:=fun p hp=>by simpa using A0z.1 hin p hp
    have hpart:∀p,p∈parts.toList→∃s,DN z (parts.toList.map fun p=>(p.1,oV σ.obj (aH p.2))) p.1=some s∧cu w ρ env (a.eval p.2) s∧(a.eval p.2).oneCell'=true:=by
     intro p hp
     obtain⟨s,_,hs⟩:=iY p.1 (hlt p hp)
     refine⟨s,hs,?_⟩
     unfold DN at hs
     split at hs
     ·rename_i q hq
      have hmem:=List.mem_of_find?_eq_some hq
      have XP:=List.find?_some hq
      simp only[beq_iff_eq] at XP
      obtain⟨p0,M3,rfl⟩:=B0r.1 hmem
      have:=gb hnd M3 hp XP
      subst this
      exact DP hs (hv _) h.cn
     ·rename_i hnone
      have:=List.find?_eq_none.1 hnone (p.1,oV σ.obj (aH p.2)) (B0r.2 ⟨p,hp,rfl⟩)
      simp at this
    have j9:∀p,p∈parts.toList→(a.eval p.2).cells=#[a.eval p.2]:=fun p hp=>by
     have:=(hpart p hp).choose_spec.2.2
     cases hv:a.eval p.2 <;> first | rfl | (rw[hv] at this;simp[Value.oneCell'] at this)
    obtain⟨place,G6,zc⟩:∃place:Nat→Option (Nat×Nat),(∀i,i<z.cells.size→place i=some (i,1))∧∀vs,P.built t vs=Instr.fill place z.cells vs:=by
     unfold NL at nq
     split at nq
     ·rename_i fields hu
      simp only[decide_eq_true_eq] at nq
      refine⟨fun i=>((List.range z.cells.size).map fun i=>(i,1)).toArray[i]?,fun i hi=>by simp[hi],fun vs=>?_⟩
      unfold Program.built
      simp only[hit,hu,hz,nq]
     ·rename_i n e hu
      split at nq
      ·rename_i ie hie
       simp only[decide_eq_true_eq] at nq
       refine⟨fun i=>some (i*ie.size,ie.size),fun i hi=>by simp[nq],fun vs=>?_⟩
       unfold Program.built
       simp only[hit,hu,hz,hie]
      ·cases nq
     ·cases nq
    obtain⟨r,hr,jE,ue⟩:=w4 (place:=place) (parts.toList.map fun p=>(p.1,a.eval p.2)) z.cells (fun p hp=>by
     obtain⟨q,hq,rfl⟩:=B0r.1 hp
     refine⟨q.1,?_,?_⟩
     ·rw[G6 _ (hlt q hq),j9 q hq];rfl
     ·have:=hlt q hq
      rw[j9 q hq]
      simp
      omega)
    have Kk:∀p,p∈parts.toList→∀k,Al place (p.1,a.eval p.2) k→k=p.1:=by
     rintro p hp k ⟨off,size,h9,h10,h11⟩
     simp only[G6 _ (hlt p hp),A0u,Prod.mk.injEq] at h9
     obtain⟨rfl,rfl⟩:=h9
     omega
    have hcell:∀k,k<z.cells.size→∃v s,r[k]? = some v∧l[k]? = some s∧cu w ρ env v s∧v.oneCell'=true:=by
     intro k hk
     obtain⟨s,hs1,jH⟩:=iY k hk
     by_cases hp:∃p,p∈parts.toList∧p.1=k
     ·obtain⟨p,hp,rfl⟩:=hp
      obtain⟨s',h1,h2,h3⟩:=hpart p hp
      rw[jH] at h1
      cases h1
      refine⟨a.eval p.2,s,?_,hs1,h2,h3⟩
      have:=(ue p.1 hk).2 (p.1,a.eval p.2) p.1 (B0r.2 ⟨p,hp,rfl⟩) (by rw[G6 _ hk,j9 p hp];rfl) (A0m _) (by rw[j9 p hp];simp) fun q hq hne qB=>by
       obtain⟨p',hp',rfl⟩:=B0r.1 hq
       have:=Kk p' hp' _ qB
       exact hne (by rw[gb hnd hp' hp this.symm])
      rw[this,j9 p hp]
      simp
     ·have hno:∀p,p∈parts.toList→p.1≠k:=fun p hpm e=>hp ⟨p,hpm,e⟩
      have:=(ue k hk).1 fun q hq qB=>by
       obtain⟨p',hp',rfl⟩:=B0r.1 hq
       exact hno p' hp' (Kk p' hp' _ qB).symm
      unfold DN at jH
      split at jH
      ·rename_i q hq
       have hmem:=List.mem_of_find?_eq_some hq
       have XP:=List.find?_some hq
       simp only[beq_iff_eq] at XP
       obtain⟨p0,M3,rfl⟩:=B0r.1 hmem
       exact absurd XP (hno p0 M3)
      ·obtain⟨v,hv1,jH⟩:=A0c.1 jH
       obtain⟨d,CK,jH⟩:=A0c.1 jH
       split at jH
       ·rename_i hone
        cases jH
        have hrd:aZ w ρ.S v d:=D.iG CK
        exact⟨v,_,this.trans hv1,hs1,.e rfl hrd fun _=>hone,hrd.one hone⟩
       ·cases jH
    have q9:P.built t (parts.map fun(x:Nat×Operand)=>(x.1,a.eval x.2)).toList=some r:=by rw[zc,Array.toList_map];exact hr
    have hrun:(execOp a.eval o).run P w=.ok (.value (.agg r)) w:=by
     unfold execOp
     simp only[ho,A0k,run_build w t _ r q9,A0e,A0n]
    refine aI h hd hrun (.agg (by rw[jE,M8]) (fun k v fQ=>?_) fun k v c fQ hc=>?_)
    ·obtain⟨v',s,h1,_,_,h4⟩:=hcell k (by rw[←jE];exact(A0h.1 fQ).1)
     rw[fQ] at h1
     cases h1
     exact h4
    ·obtain⟨v',s,h1,h2,h3,_⟩:=hcell k (by rw[←jE];exact(A0h.1 fQ).1)
     rw[fQ] at h1
     rw[hc] at h2
     cases h1
     cases h2
     exact h3
   ·cases hl
  ·cases hl
 ·cases hl

end
end
end

section
noncomputable section


def E.same:E→E→Bool
 | .sym a,.sym b=>decide (a=b)
 | .const a,.const b=>D.same a b
 | .bin o k a b,.bin o' k' a' b'=>decide (o=o')&&decide (k=k')&&a.same a'&&b.same b'
 | .un o a,.un o' a'=>decide (o=o')&&a.same a'
 | .conv k a,.conv k' a'=>decide (k=k')&&a.same a'
 | .bD a,.bD a'=>a.same a'
 | .fP a,.fP a'=>a.same a'
 | .aV a,.aV a'=>a.same a'
 | .cell i a,.cell i' a'=>decide (i=i')&&a.same a'
 | .cells i n a,.cells i' n' a'=>decide (i=i')&&decide (n=n')&&a.same a'
 | .br n a,.br n' a'=>decide (n=n')&&a.same a'
 | .idx a b,.idx a' b'=>a.same a'&&b.same b'
 | .qK n a b,.qK n' a' b'=>decide (n=n')&&a.same a'&&b.same b'
 | .nil,.nil=>true
 | .cons a b,.cons a' b'=>a.same a'&&b.same b'
 | .one a,.one a'=>a.same a'
 | .app n m a b,.app n' m' a' b'=>decide (n=n')&&decide (m=m')&&a.same a'&&b.same b'
 | .bP a b,.bP a' b'=>a.same a'&&b.same b'
 | .dL a,.dL a'=>a.same a'
 | .dO f a b,.dO f' a' b'=>decide (f=f')&&a.same a'&&b.same b'
 | .sub n a b c,.sub n' a' b' c'=>decide (n=n')&&a.same a'&&b.same b'&&c.same c'
 | .set a b n c,.set a' b' n' c'=>a.same a'&&b.same b'&&decide (n=n')&&c.same c'
 | .ite a b c,.ite a' b' c'=>a.same a'&&b.same b'&&c.same c'
 | .guard a w b,.guard a' w' b'=>a.same a'&&decide (w=w')&&b.same b'
 | .ai,.ai=>true
 | .ah a b,.ah a' b'=>a.same a'&&b.same b'
 | .au i a,.au i' a'=>decide (i=i')&&a.same a'
 | .rep n a d,.rep n' a' d'=>decide (n=n')&&a.same a'&&D.same d d'
 | .deref a,.deref a'=>a.same a'
 | .fq t a,.fq t' a'=>decide (t=t')&&a.same a'
 | .mm m a b,.mm m' a' b'=>decide (m=m')&&a.same a'&&b.same b'
 | .aD k a,.aD k' a'=>decide (k=k')&&a.same a'
 | .nn a,.nn a'=>a.same a'
 | .av n a b,.av n' a' b'=>decide (n=n')&&a.same a'&&b.same b'
 | .ld g n a b,.ld g' n' a' b'=>decide (g=g')&&decide (n=n')&&a.same a'&&b.same b'
 | .eY n a b c,.eY n' a' b' c'=>decide (n=n')&&a.same a'&&b.same b'&&c.same c'
 | .fK e n a b,.fK e' n' a' b'=>decide (e=e')&&decide (n=n')&&a.same a'&&b.same b'
 | .aC a,.aC a'=>a.same a'
 | .dR e n a b,.dR e' n' a' b'=>decide (e=e')&&decide (n=n')&&a.same a'&&b.same b'
 | .cY a b,.cY a' b'=>a.same a'&&b.same b'
 | .fC e n m a b c,.fC e' n' m' a' b' c'=>decide (e=e')&&decide (n=n')&&decide (m=m')&&a.same a'&&b.same b'&&c.same c'
 | .apps a b c,.apps a' b' c'=>a.same a'&&b.same b'&&c.same c'
 | .qL g a b,.qL g' a' b'=>decide (g=g')&&a.same a'&&b.same b'
 | .qM a b,.qM a' b'=>a.same a'&&b.same b'
 | .m4 o a b c d,.m4 o' a' b' c' d'=>decide (o=o')&&a.same a'&&b.same b'&&c.same c'&&d.same d'
 | _,_=>false

theorem E.b_ : ∀ {a b : E}, E.same a b = true → a = b := by
 intro a
 induction a <;> intro b h <;> cases b <;> simp only [E.same, A0g, decide_eq_true_eq, B0f] at h <;> first
  | rfl
  | (subst h; rfl)
  | (rw [D.b_ h])
  | (rename_i ih _; rw [ih h])
  | (rename_i ih _ _; obtain ⟨rfl, h2⟩ := h; rw [ih h2])
  | (rename_i ih _ _ _; obtain ⟨⟨rfl, rfl⟩, h2⟩ := h; rw [ih h2])
  | (rename_i ih1 ih2 _ _; rw [ih1 h.1, ih2 h.2])
  | (rename_i ih1 ih2 _ _ _; obtain ⟨⟨rfl, h1⟩, h2⟩ := h; rw [ih1 h1, ih2 h2])
  | (rename_i ih1 ih2 _ _ _ _; obtain ⟨⟨⟨rfl, rfl⟩, h1⟩, h2⟩ := h; rw [ih1 h1, ih2 h2])
  | (rename_i ih1 ih2 ih3 _ _ _; rw [ih1 h.1.1, ih2 h.1.2, ih3 h.2])
  | (rename_i ih1 ih2 ih3 _ _ _ _; obtain ⟨⟨⟨rfl, h1⟩, h2⟩, h3⟩ := h; rw [ih1 h1, ih2 h2, ih3 h3])
  | (rename_i ih1 ih2 ih3 _ _ _ _; obtain ⟨⟨⟨h1, h2⟩, rfl⟩, h3⟩ := h; rw [ih1 h1, ih2 h2, ih3 h3])
  | (rename_i ih1 ih2 ih3 _ _ _ _ _ _; obtain ⟨⟨⟨⟨⟨rfl, rfl⟩, rfl⟩, h1⟩, h2⟩, h3⟩ := h; rw [ih1 h1, ih2 h2, ih3 h3])
  | (rename_i ih1 ih2 _ _ _; obtain ⟨⟨h1, rfl⟩, h2⟩ := h; rw [ih1 h1, ih2 h2])
  | (rename_i ih _ _ _; obtain ⟨⟨rfl, h1⟩, h2⟩ := h; rw [ih h1, D.b_ h2])
  | (rename_i ih1 ih2 ih3 ih4 _ _ _ _ _; obtain ⟨⟨⟨⟨rfl, h1⟩, h2⟩, h3⟩, h4⟩ := h; rw [ih1 h1, ih2 h2, ih3 h3, ih4 h4])

def Ai:List (E×Bool)→List (E×Bool)→Bool
 | [],_=>true
 | p :: r,q :: s=>p.1.same q.1&&decide (p.2=q.2)&&Ai r s
 | _ :: _,[]=>false

theorem Ah:∀{a b:List (E×Bool)},Ai a b=true→∀p,p∈a→p∈b
 | [],_,_,p,hp=>by cases hp
 | x :: r,y :: s,h,p,hp=>by
  simp only[Ai,A0g,decide_eq_true_eq] at h
  obtain⟨⟨h1,h2⟩,h3⟩:=h
  have hxy:x=y:=Prod.ext (E.b_ h1) h2
  subst hxy
  cases hp with
  | head=>simp
  | tail _ hp=>simp[Ah h3 p hp]
 | _ :: _,[],h,_,_=>by simp[Ai] at h

def SV.strip (act:List (E×Bool)):SV→SV
 | .cond a sv=>if Ai a act then sv else .bS
 | sv=>sv

theorem SV.LC {w:World}{ρ:cr}{env:List D}{v:Value}{sv:SV}{act:List (E×Bool)}(h:cu w ρ env v sv)(ha:aQ env act):cu w ρ env v (sv.strip act):=by
 unfold SV.strip
 split
 ·split
  ·rename_i hp
   exact h.Fl.2.1 fun p hq=>ha p (Ah hp p hq)
  ·exact .bS
 ·exact h

mutual
def SV.same:SV→SV→Bool
 | .bS,.bS=>true
 | .e x s,.e y t=>x.same y&&decide (s=t)
 | .agg a,.agg b=>SV.eJ a b
 | .aM a,.aM b=>SV.eJ a b
 | .addr o f,.addr o' f'=>decide (o=o')&&decide (f=f')
 | .av o x s f,.av o' x' s' f'=>decide (o=o')&&x.same x'&&decide (s=s')&&decide (f=f')
 | .fT x f,.fT x' f'=>x.same x'&&decide (f=f')
 | .own x k,.own x' k'=>x.same x'&&decide (k=k')
 | .kF o,.kF o'=>decide (o=o')
 | .func fn a,.func fn' b=>decide (fn=fn')&&SV.eJ a b
 | _,_=>false
def SV.eJ:List SV→List SV→Bool
 | [],[]=>true
 | a :: r,b :: s=>a.same b&&SV.eJ r s
 | _,_=>false
end

mutual
theorem SV.b_:∀{a b:SV},SV.same a b=true→a=b
 | .bS,b,h=>by cases b <;> first | rfl | simp[SV.same] at h
 | .e x s,b,h=>by cases b <;> first | (simp only[SV.same,A0g,decide_eq_true_eq] at h;rw[E.b_ h.1,h.2]) | simp[SV.same] at h
 | .agg a,b,h=>by cases b <;> first | (simp only[SV.same] at h;rw[SV.cF h]) | simp[SV.same] at h
 | .aM a,b,h=>by cases b <;> first | (simp only[SV.same] at h;rw[SV.cF h]) | simp[SV.same] at h
 | .addr o f,b,h=>by cases b <;> first | (simp only[SV.same,A0g,decide_eq_true_eq] at h;rw[h.1,h.2]) | simp[SV.same] at h
 | .av o x s f,b,h=>by cases b <;> first | (simp only[SV.same,A0g,decide_eq_true_eq] at h;rw[h.1.1.1,E.b_ h.1.1.2,h.1.2,h.2]) | simp[SV.same] at h
 | .fT x f,b,h=>by cases b <;> first | (simp only[SV.same,A0g,decide_eq_true_eq] at h;rw[E.b_ h.1,h.2]) | simp[SV.same] at h
 | .own x k,b,h=>by cases b <;> first | (simp only[SV.same,A0g,decide_eq_true_eq] at h;rw[E.b_ h.1,h.2]) | simp[SV.same] at h
 | .kF o,b,h=>by cases b <;> first | (simp only[SV.same,decide_eq_true_eq] at h;rw[h]) | simp[SV.same] at h
 | .func fn a,b,h=>by cases b <;> first | (simp only[SV.same,A0g,decide_eq_true_eq] at h;rw[h.1,SV.cF h.2]) | simp[SV.same] at h
 | .cond act sv,b,h=>by cases b <;> simp[SV.same] at h
theorem SV.cF:∀{a b:List SV},SV.eJ a b=true→a=b
 | [],[],_=>rfl
 | a :: r,b :: s,h=>by
  simp only[SV.eJ,A0g] at h
  rw[SV.b_ h.1,SV.cF h.2]
 | [],_ :: _,h | _ :: _,[],h=>by simp[SV.eJ] at h
end

end
end

section
noncomputable section

def af.uG (σ:af):Operand→SV
 | .tmp t=>σ.tmp t
 | .const v=>k_ v
 | .global _=>.bS
 | .func f=>.func (.func f) []

def af.aH (σ:af)(act:List (E×Bool))(x:Operand):SV:=(σ.uG x).strip act

def isAtom (ix:Nat):E→Bool
 | .sym k=>decide (k<ix)
 | .const _=>true
 | _=>false

def v_ (ops:Array Oper)(σ:af)(ix:Nat)(g:Option (Nat×Bool)):Option (List (E×Bool)):=
 match g with
 | none=>some []
 | some (j,want)=>match(ops[j]?).bind (·.dst) with
  | some d=>match σ.tmp d with
   | .e x _=>some [(x,want)]
   | .cond act (.e x _)=>if isAtom ix x then some (act++[(x,want)]) else none
   | _=>none
  | none=>none

def sZ (P:Program)(o:Oper)(aH:List (E×Bool)→Operand→SV)(act:List (E×Bool))(obj:Nat→Option aE)(ix:Nat):Option bZ:=
 match o.op with
 | .move x | .assign x=>some { val:=aH act x }
 | .pick c a b=>match(aH act c).toE with
  | some c'=>match(aH (act++[(c',true)]) a).toE,(aH (act++[(c',false)]) b).toE with
   | some a',some b'=>some { val:=.e (.sym ix) false,bind:=some (.ev (.ite c' a' b')) }
   | _,_=>none
  | none=>none
 | .alloc t=>if xf P t then Cu P t o.dst else none
 | .box t x=>GS P t (aH act x) o.dst obj ix
 | .load t x=>Bj P t (aH act x) obj ix
 | .store t x y=>uK P t (aH act x) (aH act y) obj ix
 | .nilCheck x=>SH (aH act x) ix
 | .binOp op t x y _=>SN P op t (aH act x) (aH act y) ix
 | .unOp op _ x=>lun op (aH act x) ix
 | .convert src dst x=>Mw P src dst (aH act x) ix
 | .fieldAddr s x f=>match rK P s (aH act x) f with
  | some r=>some r
  | none=>Cl P s (aH act x) f ix
 | .indexAddr t x i=>jT P t (aH act x) (aH act i) obj ix
 | .extract x i=>yH (aH act x) i ix
 | .call c=>match c.callee with
  | .builtin .len=>match c.args.toList,c.argTypes.toList with
   | [x],[t]=>JW P t (aH act x) obj ix
   | _,_=>none
  | .value f=>match aH act f with
   | .func (.func f) []=>m9 P f (c.args.toList.map (aH act)) obj ix
   | .e x _=>Cq P x (c.args.toList.map (aH act)) o obj ix
   | _=>none
  | .invoke rc name=>linv P o (aH act rc) name (c.args.toList.map (aH act)) obj ix
  | _=>none
 | .makeFunc fn first bF=>Mo fn (first.toList.map (aH act)) (bF.toList.map (aH act)) ix
 | .build t parts=>wR P t parts.toList (aH act) obj
 | _=>none

def zm (act:List (E×Bool))(x:E):E:=act.foldr (fun p e=>.guard p.1 p.2 e) x

def nu (act:List (E×Bool)):Option Bind→Option Bind
 | none=>none
 | some (.ev x)=>some (.ev (zm act x))
 | some (.call a f h args rs)=>some (.call (act++a) f h args rs)
 | some (.bA a f h args rs)=>some (.bA (act++a) f h args rs)
 | some (.ey a x h args rs)=>some (.ey (act++a) x h args rs)
 | some (.dA a x h args rs)=>some (.dA (act++a) x h args rs)

def Lj (act:List (E×Bool))(sv:SV):SV:=match act with | []=>sv | _=>.cond act sv

def af.iw (σ:af)(d:Nat):Bool:=SV.cR d σ.tmps&&(σ.mem.all fun x=>match x with | some y=>y.aB d | none=>true)&&match σ.hs with | some y=>y.aB d | none=>true

def mz (σ:af)(o:Oper):Bool:=qv o&&match o.dst with | some d=>decide (d<σ.tmps.length) | none=>true

theorem rZ {σ:af}{o:Oper}(h:mz σ o=true):∀d,o.dst=some d→d<σ.tmps.length:=by
 intro d hd
 simp only[mz,hd,A0g,decide_eq_true_eq] at h
 exact h.2

theorem qd {σ:af}{o:Oper}(h:mz σ o=true):qv o=true:=by
 simp only[mz,A0g] at h
 exact h.1

section
variable {P:Program} {w w0:World} {X:gB} {a:Act} {σ:af} {env:List D} {ρ:cr}

theorem uF (h:bE w0 X w a σ env ρ)(x:Operand):cu w ρ env (a.eval x) (σ.uG x):=by
 cases x with
 | tmp t=>exact h.tmps t
 | const v=>exact zN v
 | global g=>exact .bS
 | func f=>exact .func (vs:=#[]) rfl (by simp)

theorem ox (h:bE w0 X w a σ env ρ){act:List (E×Bool)}(ha:aQ env act)(x:Operand):cu w ρ env (a.eval x) (σ.aH act x):=SV.LC (uF h x) ha

theorem q_:∀{act:List (E×Bool)} {x:E} {d:D},aQ env act→(zm act x).eval env=some d→x.eval env=some d
 | [],_,_,_,h=>h
 | p :: r,x,d,ha,h=>by
  have hp:=ha p (by simp)
  simp only[zm,List.foldr_cons,E.eval,hp,if_true] at h
  exact q_ (fun q hq=>ha q (by simp[hq])) h

theorem oL {act:List (E×Bool)}{ix:Nat}{b:Option Bind}(ha:aQ env act)(h:aY P env ix (nu act b)):aY P env ix b:=by
 cases b with
 | none=>trivial
 | some b=>
  cases b with
  | ev x=>obtain⟨d,h1,h2⟩:=h;exact⟨d,q_ ha h1,h2⟩
  | bA act' f hx args rs=>
   obtain⟨st,d,h',h0,h1,h2,h3⟩:=h
   have hiff:aQ env (act++act')↔aQ env act':=⟨fun hh p hp=>hh p (by simp[hp]),fun hh p hp=>(B0p.1 hp).elim (ha p) (hh p)⟩
   exact⟨st,d,h',h0,h1,fun ha'=>h2 (hiff.2 ha'),fun hn=>h3 fun hh=>hn (hiff.1 hh)⟩
  | dA act' x hx args rs=>
   obtain⟨st,d,h',h0,h1,h2,h3⟩:=h
   have hiff:aQ env (act++act')↔aQ env act':=⟨fun hh p hp=>hh p (by simp[hp]),fun hh p hp=>(B0p.1 hp).elim (ha p) (hh p)⟩
   exact⟨st,d,h',h0,h1,fun ha'=>h2 (hiff.2 ha'),fun hn=>h3 fun hh=>hn (hiff.1 hh)⟩
  | ey act' x hx args rs=>
   obtain⟨d,h1,h2⟩:=h
   refine⟨d,h1,fun ha'=>h2 fun p hp=>?_⟩
   rcases B0p.1 hp with hp | hp
   ·exact ha p hp
   ·exact ha' p hp
  | call act' f hx args rs=>
   obtain⟨d,h1,h2⟩:=h
   refine⟨d,h1,fun ha'=>h2 fun p hp=>?_⟩
   rcases B0p.1 hp with hp | hp
   ·exact ha p hp
   ·exact ha' p hp

theorem GY {ix:Nat}{x:E}(h:isAtom ix x=true)(bQ:ix≤env.length):∃d,x.eval env=some d:=by
 unfold isAtom at h
 split at h
 ·rename_i k
  simp only[decide_eq_true_eq] at h
  have hk:k<env.length:=A0s h bQ
  exact⟨env[k],by simp only[E.eval];exact A0f hk⟩
 ·exact⟨_,rfl⟩
 ·cases h

theorem zn {a:Array Value}{d:Nat}(h:d<a.size):a[d]? = some (a.getD d undef):=by
 rw[A0p,A0o h]
 rfl

theorem Fv {x:E}{v:Value}{d:D}{want:Bool}(hx:x.eval env=some d)(hr:aZ w ρ.S v d):v=.bool want↔x.eval env=some (.v (.bool want)):=by
 rw[hx]
 constructor
 ·rintro rfl
  cases hr
  rfl
 ·intro h
  cases h
  exact hr.v_eq

theorem FO {ops:Array Oper}{ix:Nat}{o:Oper}{act:List (E×Bool)}(h:bE w0 X w a σ env ρ)(bQ:ix≤env.length)(hsz:∀(j d:Nat),(ops[j]?).bind (fun(o:Oper)=>o.dst)=some d→d<σ.tmps.length)(hact:v_ ops σ ix o.guard=some act) :
  (∀p,p∈act→∃d,p.1.eval env=some d)∧(Region.wanted o (yielded ops a.tmps)=true↔aQ env act):=by
 unfold v_ at hact
 cases hg:o.guard with
 | none=>
  simp only[hg] at hact
  cases hact
  exact⟨fun p hp=>(by cases hp),(by simp[Region.wanted,hg,aQ])⟩
 | some g=>
  obtain⟨j,want⟩:=g
  simp only[hg] at hact
  split at hact
  ·rename_i d hd
   have eM:=hsz j d hd
   have qY:=h.tmps d
   have hy:Region.wanted o (yielded ops a.tmps)=true↔a.tmps.getD d undef=.bool want:=by
    simp only[Region.wanted,hg,yielded,hd,A0d,zn (show d<a.tmps.size by rw[h.size];exact eM)]
    cases a.tmps.getD d undef <;> simp
   split at hact
   ·rename_i x s hx
    cases hact
    rw[hx] at qY
    obtain⟨dx,fW,hrd,_⟩:=qY.gj
    refine⟨fun p hp=>by simp at hp;subst hp;exact⟨dx,fW⟩,?_⟩
    rw[hy,Fv fW hrd]
    simp[aQ]
   ·rename_i act' x s hx
    split at hact
    ·rename_i nr
     cases hact
     rw[hx] at qY
     obtain⟨mJ,adu,hno⟩:=qY.Fl
     obtain⟨dx,fW⟩:=GY (env:=env) nr bQ
     refine⟨fun p hp=>?_,?_⟩
     ·rcases B0p.1 hp with hp | hp
      ·exact mJ p hp
      ·simp at hp;subst hp;exact⟨dx,fW⟩
     ·rw[hy]
      have hsplit:aQ env (act'++[(x,want)])↔aQ env act'∧x.eval env=some (.v (.bool want)):=by
       constructor
       ·intro hh
        exact⟨fun p hp=>hh p (by simp[hp]),hh (x,want) (by simp)⟩
       ·rintro⟨h1,h2⟩ p hp
        rcases B0p.1 hp with hp | hp
        ·exact h1 p hp
        ·simp at hp;subst hp;exact h2
      rw[hsplit]
      by_cases ha:aQ env act'
      ·obtain⟨dx',aeg,hrd,_⟩:=(adu ha).gj
       rw[Fv aeg hrd]
       simp[ha]
      ·rw[hno ha]
       simp[ha,undef]
    ·cases hact
   ·cases hact
  ·cases hact

theorem tS {d:Nat}(h:σ.iw d=true):σ.aB d:=by
 simp only[af.iw,A0g] at h
 refine⟨fun t=>?_,fun o' x hx=>?_⟩
 ·simp only[af.eH]
  rw[A0i]
  cases ht:σ.tmps[t]? with
  | none=>rfl
  | some c=>exact SV.dV h.1.1 ht
 ·simp only[af.cK] at hx
  split at hx
  ·have h2:=h.2
   rw[hx] at h2
   exact h2
  ·rw[A0i] at hx
   cases ho:σ.mem[o']? with
   | none=>rw[ho] at hx;cases hx
   | some y=>
    rw[ho] at hx
    simp only[B0m] at hx
    subst hx
    have:=A0z.1 h.1.2 _ (B0i ho)
    simpa using this

theorem OW {act:List (E×Bool)}{sv:SV}{v:Value}(hd:∀p,p∈act→∃d,p.1.eval env=some d)(h:aQ env act)(hv:cu w ρ env v sv):cu w ρ env v (Lj act sv):=by
 cases act with
 | nil=>exact hv
 | cons p r=>exact .cond hd (fun _=>hv) fun hn=>absurd h hn


def Jb (σ:af)(o:Oper)(cA:Option (Nat×aE)):Prop:=
 ∀ob x,cA=some (ob,x)→match o.op with
  | .alloc _=>σ.obj ob=none∧σ.aB ob
  | .box _ y=>σ.obj ob=none∧σ.aB ob∧(σ.aH [] y).aB ob=true
  | _=>True

theorem lq:aQ env []:=fun p hp=>(by cases hp)

theorem D0 {o:Oper} {act:List (E×Bool)} {ix:Nat} {r:bZ} (h:bE w0 X w a σ env ρ) (ha:aQ env act) (hl:sZ P o σ.aH act σ.obj ix=some r) (hd:∀d,o.dst=some d→d<σ.tmps.length) (hm:σ.mem.length=σ.tmps.length)
  (hb:aY P env ix r.bind) (hf:Jb σ o r.cA) (hact:(∃t x,o.op=.box t x)→r.cA≠none→act=[]):(r.cA=none∧cX P o a w w0 X (σ.put o.dst r.val) env)∨(∃ob x,r.cA=some (ob,x)∧cX P o a w w0 X ((σ.setObj ob (some x)).put o.dst r.val) env):=by
 have hv:=fun x=>ox (a:=a) h ha x
 have ea:∀ob y,σ.obj ob=some y→ob=aO∨ob<σ.mem.length:=by
  intro ob y hy
  simp only[af.cK] at hy
  split at hy
  ·exact .inl (by assumption)
  ·rw[A0i] at hy
   rcases Nat.lt_or_ge ob σ.mem.length with h1 | h1
   ·exact .inr h1
   ·rw[List.getElem?_eq_none h1] at hy;cases hy
 unfold sZ at hl
 split at hl
 ·rename_i x ho;cases hl;exact .inl ⟨rfl,vD (.inl ho) (hv x) h hd⟩
 ·rename_i x ho;cases hl;exact .inl ⟨rfl,vD (.inr ho) (hv x) h hd⟩
 ·rename_i c x y ho
  split at hl
  ·rename_i c' hc
   split at hl
   ·rename_i x' y' hx hy
    cases hl
    obtain⟨dc,hdc,hrc⟩:=SV.toE_rd hc (hv c)
    obtain⟨dz,he,bQ⟩:=hb
    simp only[E.eval,hdc] at he
    have OT:∀b,dc=.v (.bool b)→aQ env (act++[(c',b)]):=by
     intro b hb' p hp
     rcases B0p.1 hp with hp | hp
     ·exact ha p hp
     ·simp at hp;subst hp;rw[hdc,hb']
    split at he
    ·rename_i heq
     cases heq
     have qB:=hrc.v_eq
     obtain⟨dx,fW,fF⟩:=SV.toE_rd hx (ox (a:=a) h (OT true rfl) x)
     rw[fW] at he
     cases he
     exact .inl ⟨rfl,aI h hd (v:=a.eval x) (by unfold execOp;simp[ho,qB,asBool]) (.e (by rw[E.eval,bQ]) fF (by simp))⟩
    ·rename_i heq
     cases heq
     have qB:=hrc.v_eq
     obtain⟨dy,wW,MV⟩:=SV.toE_rd hy (ox (a:=a) h (OT false rfl) y)
     rw[wW] at he
     cases he
     exact .inl ⟨rfl,aI h hd (v:=a.eval y) (by unfold execOp;simp[ho,qB,asBool]) (.e (by rw[E.eval,bQ]) MV (by simp))⟩
    ·cases he
   ·cases hl
  ·cases hl
 ·rename_i t ho
  split at hl
  ·rename_i hz
   have hd2:∃d x,o.dst=some d∧r.cA=some (d,x):=by
    unfold Cu at hl
    split at hl
    ·cases hl;exact⟨_,_,by assumption,rfl⟩
    ·cases hl
   obtain⟨d0,x0,EK,UL⟩:=hd2
   have hf':=hf d0 x0 UL
   rw[ho] at hf'
   obtain⟨d,x,fu,hu,_,hok⟩:=Ct ho hz hl h hd hm (fun d dY=>by rw[EK] at dY;cases dY;exact hf')
   exact .inr ⟨d,x,hu,hok⟩
  ·cases hl
 ·rename_i t x ho
  have hd2:∃d x,o.dst=some d∧r.cA=some (d,x):=by
   unfold GS at hl
   split at hl
   ·obtain⟨_,_,rfl⟩:=A0b.1 hl
    exact⟨_,_,by assumption,rfl⟩
   ·cases hl
  obtain⟨d0,x0,EK,UL⟩:=hd2
  have Yq:act=[]:=hact ⟨_,_,ho⟩ (by rw[UL];simp)
  subst Yq
  have hf':=hf d0 x0 UL
  rw[ho] at hf'
  obtain⟨d,y,fu,hu,hok⟩:=GQ ho hl (hv x) h hd hm (fun d dY=>by rw[EK] at dY;cases dY;exact hf') hb
  exact .inr ⟨d,y,hu,hok⟩
 ·rename_i t x ho;exact .inl (Ec ho hl (hv x) h hd hb)
 ·rename_i t x y ho
  obtain⟨ob,z,hu,_,hval,hok⟩:=Ce ho hl (hv x) (hv y) h hd ea hb
  rw[hval]
  exact .inr ⟨ob,z,hu,hok⟩
 ·rename_i x ho;exact .inl (GC ho hl (hv x) h hd hb)
 ·rename_i op t x y yt ho;exact .inl (GU ho hl (hv x) (hv y) h hd hb)
 ·rename_i op t x ho;exact .inl (JR ho hl (hv x) h hd hb)
 ·rename_i src dst x ho;exact .inl (Ei ho hl (hv x) h hd hb)
 ·rename_i s x f ho
  split at hl
  ·rename_i hr
   cases hl
   obtain⟨h1,_,h2⟩:=uO ho hr (hv x) h hd
   exact .inl ⟨h1,h2⟩
  ·exact .inl (AA ho hl (hv x) h hd hb)
 ·rename_i t x i ho;exact .inl (uM ho hl (hv x) (hv i) h hd hb)
 ·rename_i x i ho;exact .inl (yG ho hl (hv x) h hd hb)
 ·rename_i c ho
  obtain⟨callee,args,ts⟩:=c
  simp only at hl
  split at hl
  ·split at hl
   ·rename_i x t hx ht
    have e1:args=#[x]:=by rw[←B0g (xs:=args),hx]
    have e2:ts=#[t]:=by rw[←B0g (xs:=ts),ht]
    subst e1 e2
    exact .inl (GH ho hl (hv x) h hd hb)
   ·cases hl
  ·rename_i c
   split at hl
   ·rename_i f Tw
    have hc:a.eval c=.func (.func f) #[] #[]:=by
     have:=hv c
     rw[Tw] at this
     obtain⟨vs,he,hl',_⟩:=this.lS
     rw[he]
     have:vs=#[]:=by simpa using hl'
     rw[this]
    exact(Ek ho hc hl (by simp) (fun i x s hi hs=>by
     simp only[A0v,Array.getElem?_toList,hi,A0y,A0u] at hs
     subst hs
     exact hv x) h hd hb)
   ·rename_i x s Tw
    have hc:=hv c
    rw[Tw] at hc
    exact Cp ho hc hl (by simp) (fun i x s hi hs=>by
     simp only[A0v,Array.getElem?_toList,hi,A0y,A0u] at hs
     subst hs
     exact hv x) h hd hb
   ·cases hl
  ·rename_i rc name
   exact GJ ho hv hl h hd hb
  ·cases hl
 ·rename_i fn first bF ho
  exact .inl (D_ ho hl (by simp) (by simp) (fun i x s hi hs=>by
     simp only[A0v,Array.getElem?_toList,hi,A0y,A0u] at hs
     subst hs
     exact hv x) (fun i x s hi hs=>by
     simp only[A0v,Array.getElem?_toList,hi,A0y,A0u] at hs
     subst hs
     exact hv x) h hd hb)
 ·rename_i t parts ho
  exact .inl (AE ho hv hl h hd)
 ·cases hl

end
end
end

section
noncomputable section

structure Ld (w w':World)(row:Option Nat):Prop where
 os:w'.os=w.os
 tape:TL w' w
 output:w'.output=w.output
 size:w.heap.size≤w'.heap.size
 block:∀k,k<w.heap.size→some k≠row→w'.heap[k]? = w.heap[k]?

/-! ## append,with where the new slice lies -/

section
variable {P:Program} (w:World)

theorem jO (t ty e:TypeId) (i:TypeInfo) (z:Value) (size bytes:Nat) (ht:P.underlying t=some (.slice e)) (hi:P.info? e=some i) (hz:i.zero=some z)
  (hsize:i.size=size) (hby:i.bytes=bytes) (hzs:z.cells.size=size) (hsz:0<size)
  (v:Value) (n:Nat) (xs:List Value) (hown:w.ownsRow 0 e size v n xs)
  (a:Addr) (m c:Nat) (news:List Value) (hl:news.length=m*size) (hnews:∀j u,news[j]? = some u→w.cell? (a.add j)=some u) (h1:∀u∈news,u.oneCell'=true)
  (h63:n+m≤maxLen) (hbytes:(n+m)*bytes≤140737488355328) :
  ∃v' w',(Builtin.append_ #[t,t] ty #[v,.slice (some a) m c]).run P w=.ok v' w'∧w'.ownsRow 0 e size v' (n+m) (xs++news) ∧
   ((v'.ownBlock=v.ownBlock∧Ld w w' v.ownBlock)∨(v'.ownBlock=some w.heap.size∧Ld w w' none)):=by
 subst hsize
 subst hby
 have hsmall:n+m≤9223372036854775807:=by simp only[maxLen] at h63;omega
 have hlen:(xs++news).length=(n+m)*i.size:=by rw[A0t,hown.1,hl,Nat.add_mul]
 have grown:∀(old:Nat),old<n+m →
   (w.drew.alloc (.cells (xs.toArray++news.toArray++Builtin.zeroCells z.cells (grownCap w (n+m) old e-(n+m))) e)).ownsRow 0 e i.size
    (.slice (some ⟨w.heap.size,0,none⟩) (n+m) (grownCap w (n+m) old e)) (n+m) (xs++news) ∧
   Ld w (w.drew.alloc (.cells (xs.toArray++news.toArray++Builtin.zeroCells z.cells (grownCap w (n+m) old e-(n+m))) e)) none:=by
  intro old ho
  have hge:=grownCap_ge w (n+m) old e
  have uY:grownCap w (n+m) old e≤maxLen:=grownCap_le_maxLen w (n+m) old e h63
  refine⟨⟨hlen,.inr ⟨w.heap.size,_,_,rfl,Nat.zero_le _,heap_alloc_new w.drew _,hge,uY,?_,?_⟩⟩,⟨rfl,⟨rfl,by simp⟩,rfl,by simp,fun k hk _=>gr w.drew _ k hk⟩⟩
  ·simp only[Array.size_append,List.size_toArray,size_zeroCells,hzs,hown.1,hl,←Nat.add_mul]
   congr 1
   omega
  ·simp only[Array.toList_append,B0b]
   rw[←B0b,←hlen]
   exact List.take_left
 rcases hown.2 with⟨rfl,rfl⟩ | ⟨g,cap,cur,rfl,Qa,hg,hnc,uY,hcs,th⟩
 ·have hx:xs=[]:=A0w (by simpa using hown.1)
  subst hx
  by_cases hm:m=0
  ·subst hm
   have hn:news=[]:=A0w (by simpa using hl)
   subst hn
   refine⟨.slice none 0 0,w,?_,World.ownsRow_nil w 0 e i.size,.inl ⟨rfl,⟨rfl,.refl _,rfl,A0m _,fun _ _ _=>rfl⟩⟩⟩
   simp[Builtin.append_,run_underlying ht,sizeOf,typeInfo,hi,Builtin.lenOf,Builtin.firstCells,loadCells,loadCellsFrom]
  ·have hr:=run_append_nil (P:=P) w t ty e i z ht hi hz a m c news hl hnews (by omega) (by omega) (by have hb:=hbytes;simp only[B0k] at hb;omega)
   have pq:=grown 0 (by omega)
   simp only[B0k,A0r,Array.empty_append] at pq ⊢
   exact⟨_,_,hr,pq.1,.inr ⟨rfl,pq.2⟩⟩
 ·by_cases hroom:n+m≤cap
  ·have hfit:n*i.size+news.length≤cur.size:=by rw[hl,hcs,←Nat.add_mul];exact Nat.mul_le_mul_right _ hroom
   have hr:=run_append_room (P:=P) w t ty e i ht hi g n cap cur hg a m c news hl hnews h1 hroom hfit
   refine⟨_,_,hr,⟨hlen,.inr ⟨g,cap,_,rfl,Qa,setRow_heap w g cur _ e _ hg,hroom,uY,?_,?_⟩⟩,.inl ⟨rfl,⟨rfl,⟨rfl,A0m _⟩,rfl,by simp,fun k _ hk=>setRow_other w g k _ (fun e=>hk (by simp[Value.ownBlock,e]))⟩⟩⟩
   ·simp only[List.size_toArray,A0t,B0s,List.length_drop,B0j]
    omega
   ·rw[th,←hlen]
    exact List.take_left
  ·have holds:∀j u,xs[j]? = some u→w.cell? ((⟨g,0,none⟩:Addr).add j)=some u:=hown.cells (g:=g) rfl
   have hr:=run_append_grow (P:=P) w t ty e i z ht hi hz ⟨g,0,none⟩ n cap xs hown.1 holds a m c news hl hnews (by omega) (by omega) (growslice_fits (by omega) hbytes)
   have pq:=grown cap (by omega)
   exact⟨_,_,hr,pq.1,.inr ⟨rfl,pq.2⟩⟩

theorem iR (t ty e:TypeId)(i:TypeInfo)(ht:P.underlying t=some (.slice e))(hi:P.info? e=some i)(ad:Option Addr)(n cap:Nat)(hn:n≤cap) :
  (Builtin.append_ #[t,t] ty #[.slice ad n cap,.slice none 0 0]).run P w=.ok (.slice ad n cap) w:=by
 cases ad <;> simp[Builtin.append_,run_underlying ht,sizeOf,typeInfo,hi,Builtin.lenOf,Builtin.firstCells,loadCells,hn,storeCells]

theorem wi (t ty e:TypeId)(i:TypeInfo)(ht:P.underlying t=some (.slice e))(hi:P.info? e=some i)(ad:Option Addr)(n cap:Nat)(hn:n≤cap)(a:Addr)(c:Nat) :
  (Builtin.append_ #[t,t] ty #[.slice ad n cap,.slice (some a) 0 c]).run P w=.ok (.slice ad n cap) w:=by
 cases ad <;> simp[Builtin.append_,run_underlying ht,sizeOf,typeInfo,hi,Builtin.lenOf,Builtin.firstCells,loadCells,loadCellsFrom,hn,storeCells]

end

/-! ## a slice's right to grow is taken back: what is left can be read -/

mutual
def SV.down (k:Nat):SV→SV
 | .own x k'=>if k'=k then .e x true else .own x k'
 | .agg cs=>.agg (SV.jM k cs)
 | .aM cs=>.aM (SV.jM k cs)
 | .func fn cs=>.func fn (SV.jM k cs)
 | .cond act sv=>.cond act (sv.down k)
 | .bS=>.bS
 | .e x s=>.e x s
 | .fT x f=>.fT x f
 | .addr o f=>if o=k then .bS else .addr o f
 | .av o x s f=>if o=k then .bS else .av o x s f
 | .kF o=>if o=k then .bS else .kF o
def SV.jM (k:Nat):List SV→List SV
 | []=>[]
 | s :: r=>s.down k :: SV.jM k r
end

theorem SV.nB {k:Nat}:∀{cs:List SV} {i:Nat} {c:SV},(SV.jM k cs)[i]? = some c→∃c',cs[i]? = some c'∧c=c'.down k
 | [],i,c,h=>by simp[SV.jM] at h
 | s :: r,0,c,h=>by simp[SV.jM] at h;exact⟨s,rfl,h.symm⟩
 | s :: r,i+1,c,h=>by
  simp[SV.jM] at h
  obtain⟨c',h1,h2⟩:=SV.nB h
  exact⟨c',by simpa using h1,h2⟩

theorem SV.iq {k:Nat}:∀(cs:List SV),(SV.jM k cs).length=cs.length
 | []=>rfl
 | _ :: r=>by simp[SV.jM,SV.iq r]

mutual
theorem SV.g_ {k:Nat}:∀(sv:SV),(sv.down k).aB k=true
 | .own x k'=>by
  simp only[SV.down]
  split
  ·rfl
  ·simpa[SV.aB] using(by assumption:¬k'=k)
 | .agg cs=>by simp only[SV.down,SV.aB];exact SV.jw cs
 | .aM cs=>by simp only[SV.down,SV.aB];exact SV.jw cs
 | .func fn cs=>by simp only[SV.down,SV.aB];exact SV.jw cs
 | .cond act sv=>by simp only[SV.down,SV.aB];exact SV.g_ sv
 | .bS | .e x s | .fT x f=>rfl
 | .addr o f=>by
  simp only[SV.down]
  split
  ·rfl
  ·simpa[SV.aB] using(by assumption:¬o=k)
 | .av o x s f=>by
  simp only[SV.down]
  split
  ·rfl
  ·simpa[SV.aB] using(by assumption:¬o=k)
 | .kF o=>by
  simp only[SV.down]
  split
  ·rfl
  ·simpa[SV.aB] using(by assumption:¬o=k)
theorem SV.jw {k:Nat}:∀(cs:List SV),SV.cR k (SV.jM k cs)=true
 | []=>rfl
 | s :: r=>by simp only[SV.jM,SV.cR,A0g];exact⟨SV.g_ s,SV.jw r⟩
end

theorem cu.down {w:World}{ρ:cr}{env:List D}{v:Value}{sv:SV}(k:Nat)(h:cu w ρ env v sv):cu w ρ env v (sv.down k):=by
 induction h with
 | bS=>exact .bS
 | e hx h h1=>exact .e hx h h1
 | agg hl ho _ ih=>exact .agg (by rw[SV.iq];exact hl) ho fun i v c hv hc=>by obtain⟨c',h1,rfl⟩:=SV.nB hc;exact ih i v c' hv h1
 | aM hl _ ih=>exact .aM (by rw[SV.iq];exact hl) fun i v c hv hc=>by obtain⟨c',h1,rfl⟩:=SV.nB hc;exact ih i v c' hv h1
 | addr=>simp only[SV.down];split;exact .bS;exact .addr
 | av hx=>simp only[SV.down];split;exact .bS;exact .av hx
 | fT hx h=>exact .fT hx h
 | own hx h hv=>
  simp only[SV.down]
  split
  ·exact .e hx h fun _=>rfl
  ·exact .own hx h hv
 | kF=>simp only[SV.down];split;exact .bS;exact .kF
 | func hl _ ih=>exact .func (by rw[SV.iq];exact hl) fun i v c hv hc=>by obtain⟨c',h1,rfl⟩:=SV.nB hc;exact ih i v c' hv h1
 | cond hd _ hn ih=>exact .cond hd ih hn

def aE.down (k:Nat):aE→aE
 | .box cs=>.box (SV.jM k cs)
 | x=>x

def af.down (k:Nat)(σ:af):af:={ tmps:=SV.jM k σ.tmps,mem:=(σ.mem.map fun x=>x.map (aE.down k)).set k none,hs:=if k=aO then none else σ.hs.map (aE.down k) }

theorem aE.Qq {w:World}{ρ:cr}{env:List D}{o:Nat}{x:aE}(k:Nat)(h:fI w ρ env o x):fI w ρ env o (x.down k):=by
 cases x with
 | box cs=>
  obtain⟨vs,ty,h1,h2,h3,h4,h5⟩:=h
  exact⟨vs,ty,h1,by rw[SV.iq];exact h2,h3,fun i v c hv hc=>by obtain⟨c',h6,rfl⟩:=SV.nB hc;exact(h4 i v c' hv h6).down k,h5⟩
 | row y sz=>exact h
 | tok e sz=>exact h
 | store cf x=>exact h

theorem aE.zI (ρ:cr)(o k:Nat)(x:aE):bw ρ o (x.down k)=bw ρ o x:=by cases x <;> rfl

theorem aE.g_ (k:Nat)(x:aE):(x.down k).aB k=true:=by
 cases x with
 | box cs=>exact SV.jw cs
 | row y sz=>rfl
 | tok e sz=>rfl
 | store cf x=>rfl

theorem af.nC {σ:af}{k o:Nat}{y:aE}(hy:(σ.down k).obj o=some y):o≠k∧∃x,σ.obj o=some x∧y=x.down k:=by
 simp only[af.cK,af.down] at hy ⊢
 split at hy
 ·rename_i ho
  subst ho
  split at hy
  ·cases hy
  ·rename_i hk
   obtain⟨x,hx,rfl⟩:=A0b.1 hy
   exact⟨fun e=>hk e.symm,x,by simpa using hx,rfl⟩
 ·rename_i hh
  simp only[A0i,A0x,A0v,List.length_map] at hy
  rw[if_neg hh]
  simp only[A0i]
  split at hy
  ·split at hy <;> simp at hy
  ·rename_i hne
   refine⟨fun e=>hne e.symm,?_⟩
   cases ho:σ.mem[o]? with
   | none=>rw[ho] at hy;simp at hy
   | some z=>
    rw[ho] at hy
    cases z with
    | none=>simp at hy
    | some x=>simp at hy;exact⟨x,rfl,hy.symm⟩

theorem af.E4 {σ:af}{k:Nat}(t:Nat):(σ.down k).tmp t=(σ.tmp t).down k:=by
 have go:∀(l:List SV) (t:Nat),(SV.jM k l).getD t .bS=(l.getD t .bS).down k:=by
  intro l
  induction l with
  | nil=>intro t;simp[SV.jM,SV.down]
  | cons s r ih=>
   intro t
   cases t with
   | zero=>simp[SV.jM]
   | succ t=>simpa[SV.jM] using ih t
 rw[af.eH,af.eH];exact go σ.tmps t

theorem af.g_ (σ:af)(k:Nat):(σ.down k).aB k:=by
 refine⟨fun t=>?_,fun o y hy=>?_⟩
 ·rw[af.E4];exact SV.g_ _
 ·obtain⟨_,x,_,rfl⟩:=af.nC hy
  exact aE.g_ k x

theorem af.tL (σ:af)(k:Nat):(σ.down k).tmps.length=σ.tmps.length∧(σ.down k).mem.length=σ.mem.length:=by
 simp[af.down,SV.iq]

section
variable {P:Program} {w w' w0:World} {X:gB} {a:Act} {σ:af} {env:List D} {ρ:cr}

theorem bE.down (h:bE w0 X w a σ env ρ)(k:Nat):bE w0 X w a (σ.down k) env ρ:=by
 refine⟨by rw[(σ.tL k).1];exact h.size,fun t=>by rw[af.E4];exact(h.tmps t).down k,fun o y hy=>?_,?_,?_,h.cells,h.os,h.tape,h.output,h.grown,h.old,h.sub,h.new,h.su,h.hold⟩
 ·obtain⟨_,x,hx,rfl⟩:=af.nC hy
  exact aE.Qq k (h.cn o x hx)
 ·intro o o' y y' b h1 h2 h3 h4
  obtain⟨_,x,hx,rfl⟩:=af.nC h1
  obtain⟨_,x',hx',rfl⟩:=af.nC h2
  rw[aE.zI] at h3 h4
  exact h.inj o o' x x' b hx hx' h3 h4
 ·intro o y b h1 h2
  obtain⟨_,x,hx,rfl⟩:=af.nC h1
  rw[aE.zI] at h2
  exact(by have:=h.own o x b hx h2;cases x <;> exact this)

def cr.iQ (ρ:cr)(k:Nat)(v:Value)(cells:Nat):cr:={ ρ with val:=fun x=>if x=k then v else ρ.val x,S:=ρ.S.or fun b i=>v.ownBlock=some b∧i<cells }

theorem cr.BL (ρ:cr)(k:Nat)(v:Value)(c:Nat):ρ.ql (ρ.iQ k v c) (·=k):=
 ⟨⟨fun _ _=>rfl,fun x hx=>by simp[cr.iQ,hx],ρ.S.mr _⟩,fun _=>rfl,fun _=>rfl⟩

theorem bE.Ag (h:bE w0 X w a σ env ρ) {k:Nat} (hk:k<σ.mem.length) (hfree:σ.obj k=none) (kN:σ.aB k) {e:TypeId} {size:Nat} {v:Value} {n:Nat} {xs:List Value} (hown:w'.ownsRow 0 e size v n xs)
  (hK:bp ρ.S w w') (hb:∀o x b,σ.obj o=some x→bw ρ o x b→w'.heap[b]? = w.heap[b]?∧v.ownBlock≠some b) (hB:∀b,v.ownBlock=some b→w0.heap.size≤b∨X.may b)
  (hS:∀b,v.ownBlock=some b→∀off,n*size≤off→¬ρ.S b off) (hos:w'.os=w.os) (ht:TL w' w) (hout:w'.output=w.output) (hsz:w.heap.size≤w'.heap.size)
  (hold:∀b,b<w0.heap.size→¬X.may b→w'.heap[b]? = w.heap[b]?):bE w0 X w' a (σ.setObj k (some (.tok e size))) env (ρ.iQ k v (n*size)):=by
 have hm:=ρ.BL k v (n*size)
 have hne:∀o y,σ.obj o=some y→o≠k:=fun o y hy e=>by rw[e,hfree] at hy;cases hy
 have hlt:∀b,v.ownBlock=some b→b<w'.heap.size:=fun b hb'=>(hown.lt b hb').2
 have hval:(ρ.iQ k v (n*size)).val k=v:=by simp[cr.iQ]
 refine⟨by rw[af.aA];exact h.size,fun t=>by rw[af.eA];exact(h.tmps t).keep hK hm fun o' e'=>by subst e';exact kN.1 t,?_,?_,?_,?_,hos.trans h.os,ht.trans h.tape,hout.trans h.output,B0e h.grown hsz,fun b h1 h2=>(hold b h1 h2).trans (h.old b h1 h2),Sets.le_trans h.sub (ρ.S.mr _),?_,h.su,h.hold⟩
 ·intro o y hy
  rw[af.jQ hk] at hy
  by_cases e':o=k
  ·subst e'
   simp at hy
   subst hy
   refine⟨n,xs,by rw[hval];exact hown,fun b hb' off hoff hs=>?_⟩
   rw[hval] at hb'
   rcases hs with hs | ⟨_,hs⟩
   ·exact hS b hb' off hoff hs
   ·omega
  ·simp[e'] at hy
   refine(h.cn o y hy).keep hK hm e' (fun o'' e''=>by subst e'';exact kN.2 o y hy) (fun b hb'=>(hb o y b hy hb').1) fun b off hb' hs=>?_
   rcases hs with hs | ⟨hs,_⟩
   ·exact hs
   ·exact absurd hs (hb o y b hy hb').2
 ·intro o1 o2 y1 y2 b h1 h2 h3 h4
  rw[af.jQ hk] at h1 h2
  by_cases e1:o1=k <;> by_cases e2:o2=k
  ·rw[e1,e2]
  ·subst e1;simp at h1;subst h1
   simp[e2] at h2
   rw[ee hm e2 (h.cn _ _ h2)] at h4
   simp only[bw,hval] at h3
   exact absurd h3 (hb o2 y2 b h2 h4).2
  ·subst e2;simp at h2;subst h2
   simp[e1] at h1
   rw[ee hm e1 (h.cn _ _ h1)] at h3
   simp only[bw,hval] at h4
   exact absurd h4 (hb o1 y1 b h1 h3).2
  ·simp[e1] at h1;simp[e2] at h2
   rw[ee hm e1 (h.cn _ _ h1)] at h3
   rw[ee hm e2 (h.cn _ _ h2)] at h4
   exact h.inj o1 o2 y1 y2 b h1 h2 h3 h4
 ·intro o y b hy hb'
  rw[af.jQ hk] at hy
  by_cases e':o=k
  ·subst e';simp at hy;subst hy
   simp only[bw,hval] at hb'
   exact⟨.inr (hB b hb'),hlt b hb'⟩
  ·simp[e'] at hy
   rw[ee hm e' (h.cn _ _ hy)] at hb'
   obtain⟨h1,h2⟩:=h.own o y b hy hb'
   exact⟨h1,A0s h2 hsz⟩
 ·intro b o hs
  rcases hs with hs | ⟨hs,_⟩
  ·exact A0s (h.cells b o hs) hsz
  ·exact hlt b hs
 ·intro b o hs
  rcases hs with hs | ⟨hs,_⟩
  ·exact h.new b o hs
  ·exact .inr (hB b hs)

def iP (w:World)(S:Sets)(size:Nat)(xs:List Value)(es:List D):Prop:=
 xs.length=es.length*size∧(∀(i:Nat) (e:D),es[i]? = some e→e.cells.length=size) ∧
 ∀(i:Nat) (e:D) (j:Nat) (d:D),es[i]? = some e→e.cells[j]? = some d→d.one=true∧∃v,xs[i*size+j]? = some v∧aZ w S v d

theorem iP.keep {S S':Sets}{size:Nat}{xs:List Value}{es:List D}(h:iP w S size xs es)(hk:bp S w w')(hS:S≤S'):iP w' S' size xs es:=
 ⟨h.1,h.2.1,fun i e j d he hd=>let ⟨h1,v,h2,h3⟩:=h.2.2 i e j d he hd;⟨h1,v,h2,h3.keep hk hS⟩⟩

theorem pX {es:List D}{size i j:Nat}{e d:D}(hz:∀(i:Nat) (e:D),es[i]? = some e→e.cells.length=size)(he:es[i]? = some e)(hd:e.cells[j]? = some d):i*size+j<es.length*size∧j<size:=by
 have hi:i<es.length:=(A0a.1 he).1
 have hj:j<size:=by rw[←hz i e he];exact(A0a.1 hd).1
 refine⟨?_,hj⟩
 have:(i+1)*size≤es.length*size:=Nat.mul_le_mul_right _ hi
 rw[Nat.add_mul,Nat.one_mul] at this
 omega

theorem B8 {S:Sets}{e:TypeId}{size n:Nat}{v:Value}{xs:List Value}{es:List D}(hown:w.ownsRow 0 e size v n xs)(hn:es.length=n)(hrow:iP w S size xs es)(hS:∀b,v.ownBlock=some b→∀i,i<n*size→S b i):aZ w S v (.a_ es):=by
 rcases hown.2 with⟨rfl,rfl⟩ | ⟨g,cap,cur,rfl,_,hg,hnc,uY,hcs,th⟩
 ·have:es=[]:=A0w hn
  subst this
  exact .nil
 ·refine .a_ (size:=size) (val:=fun i j=>xs.getD (i*size+j) undef) hn.symm hnc uY hrow.2.1 (fun i e j d he hd=>(hrow.2.2 i e j d he hd).1) (fun i e j d he hd=>?_) (fun i e j d he hd=>?_) fun i e j d he hd=>?_
  ·refine hS g rfl _ ?_
   have:=(pX hrow.2.1 he hd).1
   rw[hn] at this
   omega
  ·obtain⟨_,v,hv,_⟩:=hrow.2.2 i e j d he hd
   have:=hown.cells (g:=g) rfl (i*size+j) v hv
   rw[fz] at this
   simp only[A0i,hv,B0m]
   rw[show 0+i*size+j=0+(i*size+j) from by omega]
   exact this
  ·obtain⟨_,v,hv,hr⟩:=hrow.2.2 i e j d he hd
   simp only[A0i,hv,B0m]
   exact hr

theorem Pk {S:Sets}{e:TypeId}{size n:Nat}{v:Value}{xs:List Value}{es:List D}(hown:w.ownsRow 0 e size v n xs)(h:aZ w S v (.a_ es))(hz:bM size es=true):es.length=n∧iP w S size xs es:=by
 have FC:∀(i:Nat) (e:D),es[i]? = some e→e.cells.length=size:=fun i e he=>lp hz he
 rcases hown.2 with⟨rfl,rfl⟩ | ⟨g,cap,cur,rfl,_,hg,hnc,uY,hcs,th⟩
 ·cases h
  have:xs=[]:=A0w (by simpa using hown.1)
  subst this
  exact⟨rfl,by simp,FC,by simp⟩
 ·cases h with
  | emp _=>
   have:xs=[]:=A0w (by simpa using hown.1)
   subst this
   exact⟨rfl,by simp,FC,by simp⟩
  | a_ hl hc hm Rh ho hS hw hr=>
   refine⟨hl.symm,by rw[hown.1,hl],FC,fun i e j d he hd=>⟨ho i e j d he hd,?_⟩⟩
   obtain⟨hlt,hj⟩:=pX FC he hd
   have hsz:=(Rh i e he).symm.trans (FC i e he)
   have hx:i*size+j<xs.length:=by rw[hown.1,hl];exact hlt
   refine⟨xs[i*size+j],A0f hx,?_⟩
   have h1:=hown.cells (g:=g) rfl _ _ (A0f hx)
   have h2:=hw i e j d he hd
   rw[fz] at h1
   rw[hsz,show 0+i*size+j=0+(i*size+j) from by omega,h1] at h2
   rw[Option.some.inj h2]
   exact hr i e j d he hd

end
end
end
end Go.Am
