/- Texts. -/
import Derived.Orders
import Derived.Tactics2
import Derived.Laws.AppendOwn
import Derived.Laws.OwnMore
import Derived.Laws.Rows
import Derived.Below
import Derived.Laws.BytesArg
import Derived.Laws.Externs
import Derived.Laws.CopyRow
import Derived.RangeFuncIn
import Derived.TacticsIn
import Derived.OrdersIn
import Derived.LoopNIn
import Derived.RangeFuncLeaves
import Derived.RangeFuncNested
import Derived.OwnWalkIn
import Derived.Laws.MakeOwn
import Derived.Laws.StructEq
import Derived.Laws.Pointers
import Derived.WalkSpells
import Derived.Laws.Tables
import Derived.Great.BuildSlice
set_option linter.unusedSimpArgs false
set_option linter.unusedVariables false
namespace Go.Am
section
abbrev A0a:=@Option.map_eq_some_iff
abbrev A0b:=@Option.bind_eq_some_iff
abbrev A0c:=@List.getElem?_eq_some_iff
abbrev A0d:=@Option.bind_some
abbrev A0e:=@List.getElem?_eq_getElem
abbrev A0f:=@Bool.and_eq_true
abbrev A0g:=@List.getElem?_append_left
abbrev A0h:=@Result.andThen_ok
abbrev A0i:=@List.cons_append
abbrev A0j:=@List.nil_append
abbrev A0k:=@List.getD_eq_getElem?_getD
abbrev A0l:=@Array.getElem?_eq_some_iff
abbrev A0o:=@List.getElem?_append_right
abbrev A0m:=@Nat.le_refl
abbrev A0p:=@Array.getElem?_eq_getElem
abbrev A0n:=@Sem.run_bind
abbrev A0u:=@List.length_append
abbrev A0q:=@List.getElem?_set_ne
abbrev A0s:=@Array.getD_eq_getD_getElem?
abbrev A0t:=@decide_eq_true_eq
abbrev A0r:=@Sem.run_pure
abbrev A0v:=@Nat.lt_of_lt_of_le
abbrev A0w:=@List.getElem?_map
abbrev A0x:=@Option.some.injEq
abbrev A0y:=@Option.map_some
abbrev A0C:=@List.all_eq_true
abbrev A0A:=@List.append_assoc
abbrev A0D:=@List.eq_nil_of_length_eq_zero
abbrev A0z:=@if_pos
abbrev A0B:=@if_neg
abbrev A0E:=@List.mem_cons
abbrev A0F:=@List.mem_map
abbrev A0G:=@run_underlying
abbrev B0f:=@List.mem_cons_of_mem
abbrev A0K:=@List.mem_append
abbrev A0I:=@List.mem_of_getElem?
abbrev A0H:=@List.getElem?_take
abbrev A0J:=@Nat.le_trans
abbrev A0L:=@List.getElem?_cons_zero
abbrev A0N:=@List.getElem?_set
abbrev A0X:=@List.mem_range
abbrev A0M:=@List.getElem?_set_self
abbrev B0m:=@List.mem_cons_self
abbrev A0Y:=@List.mem_singleton
abbrev A0U:=@Nat.lt_or_ge
abbrev A0Q:=@Nat.zero_add
abbrev A0S:=@Bool.false_eq_true
abbrev A0O:=@List.take_succ_eq_append_getElem
abbrev A0P:=@Bool.not_eq_true
abbrev B0d:=@if_true
abbrev A0R:=@List.getElem?_toArray
abbrev A0Z:=@List.getElem?_drop
abbrev A0T:=@List.getElem_mem
abbrev B0a:=@List.length_cons
abbrev A0V:=@World.cell?_of_block
abbrev A0W:=@Array.length_toList
abbrev B0e:=@Nat.zero_le
abbrev B0b:=@Array.toArray_toList
abbrev B0c:=@Array.getElem?_toList
abbrev B0g:=@List.length_take
abbrev B0A:=@decide_eq_false_iff_not
abbrev B0j:=@Bool.not_eq_true'
abbrev B0h:=@List.any_eq_true
abbrev B0n:=@if_false
abbrev B0i:=@Option.isNone_iff_eq_none
abbrev B0k:=@Nat.mul_le_mul_right
abbrev B0q:=@congrArg
abbrev C0q:=@List.set_append_right
abbrev B0l:=@Option.getD_some
abbrev B0P:=@Int.le_refl
abbrev B0r:=@List.flatMap_cons
abbrev B0y:=@List.mem_iff_getElem
abbrev B0o:=@List.getElem?_replicate
abbrev B0p:=@List.map_cons
abbrev B0S:=@List.drop_eq_getElem_cons
abbrev B0B:=@List.getElem?_cons_succ
abbrev B0u:=@List.length_map
abbrev B0s:=@List.map_congr_left
abbrev B0v:=@Bool.or_eq_true
abbrev B0F:=@List.append_nil
abbrev B0t:=@Go.MapKept.run_getObj_map
abbrev B0z:=@List.foldl_append
abbrev B0K:=@beq_iff_eq
abbrev B0w:=@Nat.add_mul
abbrev B0x:=@List.length_pos_iff
abbrev B0C:=@List.length_nil
abbrev C0c:=@Bool.or_eq_false_iff
abbrev C0E:=@List.pairwise_cons
abbrev B0T:=@List.mem_filter
abbrev B0D:=@Array.getElem?_setIfInBounds
abbrev B0E:=@List.length_drop
abbrev B0Y:=@List.foldl_cons
abbrev B0L:=@List.length_set
abbrev C0F:=@List.take_append_drop
abbrev C0d:=@List.take_length
abbrev B0U:=@Nat.not_lt_zero
abbrev B0G:=@List.mem_of_find?_eq_some
abbrev C0k:=@List.pairwise_iff_getElem
abbrev B0H:=@Classical.byContradiction
abbrev B0I:=@List.size_toArray
abbrev B0R:=@Nat.sub_self
abbrev B0J:=@List.getElem?_append
abbrev B0M:=@Option.some.inj
abbrev B0N:=@ByteArray.toList_eq
abbrev B0V:=@decide_eq_false
abbrev B0O:=@Ne.symm
abbrev B0Q:=@List.getElem?_of_mem
abbrev B0Z:=@List.filter_append
abbrev C0A:=@List.zipWith_cons_cons
abbrev B0W:=@List.prefix_refl
abbrev C0e:=@List.filter_cons
abbrev C0w:=@List.cons_ne_nil
abbrev B0X:=@Array.toList_append
abbrev C0a:=@List.cons.injEq
abbrev C0b:=@Option.map_none
abbrev C0f:=@List.map_toArray
abbrev C0g:=@Array.toList_map
abbrev C0h:=@Nat.mul_comm
abbrev C0i:=@Array.getElem?_append_left
abbrev C0j:=@Int.toNat_natCast
abbrev C0l:=@List.mem_or_eq_of_mem_set
abbrev C0m:=@Nat.add_assoc
abbrev C0n:=@Go.MapKept.run_setObj_map
abbrev C0o:=@Option.isSome_iff_ne_none
abbrev C0p:=@heap_alloc_new
abbrev C0X:=@List.length_singleton
abbrev C0r:=@Array.getElem?_modify
abbrev C0G:=@List.length_filter_le
abbrev C0H:=@List.length_replicate
abbrev C0Y:=@List.getElem?_eq_none
abbrev C0I:=@getElem!_pos
abbrev C0s:=@Array.eq_empty_of_size_eq_zero
abbrev C0t:=@Option.isSome_iff_exists
abbrev D0q:=@List.set_cons_succ
abbrev C0u:=@eqGuard_at_pointer
abbrev C0v:=@List.eq_of_mem_replicate
abbrev C0C:=@Nat.mod_eq_of_lt
abbrev C0J:=@Bool.or_false
abbrev C0x:=@List.map_nil
abbrev C0y:=@Nat.sub_zero
abbrev C0T:=@decide_eq_true
abbrev C0z:=@List.map_append
abbrev C0B:=@List.take_of_length_le
abbrev C0D:=@Nat.mod_lt
abbrev C0K:=@Nat.le_of_lt
abbrev D0r:=@Bool.false_or
abbrev C0L:=@Nat.le_of_ble_eq_true
abbrev D0G:=@Bool.and_eq_false_iff
abbrev D0M:=@Bool.true_and
abbrev C0M:=@List.getElem?_zip_eq_some
abbrev C0N:=@List.mem_append_left
abbrev C0Z:=@Bool.eq_iff_iff
abbrev C0O:=@World.ownsRow_nil
abbrev C0P:=@List.mem_singleton_self
abbrev C0Q:=@List.IsPrefix.length_le
abbrev C0R:=@List.mem_map_of_mem
abbrev C0S:=@Nat.one_mul
abbrev C0U:=@List.mapM_cons
abbrev C0V:=@Nat.div_div_eq_div_mul
abbrev C0W:=@Array.all_eq_true'
abbrev D0a:=@List.set_getElem_self
abbrev D0b:=@List.mem_iff_getElem?
abbrev D0c:=@Nat.div_lt_iff_lt_mul
abbrev D0d:=@List.getElem!_toArray
abbrev D0e:=@Oper.apart_spec
abbrev D0f:=@Nat.ne_of_lt
abbrev D0g:=@Nat.pow_succ
abbrev D0h:=@List.find?_some
abbrev D0i:=@Nat.lt_succ_of_lt
abbrev D0j:=@Nat.lt_trichotomy
abbrev D0k:=@Decidable.not_not
abbrev D0l:=@Int.tdiv_eq_ediv_of_nonneg
abbrev D0m:=@List.mem_toArray
abbrev D0n:=@Nat.div_eq_of_lt
abbrev D0o:=@Array.getElem?_replicate
abbrev D0H:=@Nat.add_zero
abbrev D0p:=@List.map_set
abbrev D0s:=@List.findIdx?_eq_some_iff_getElem
abbrev D0N:=@Bool.not_true
abbrev D0t:=@List.find?_eq_none
abbrev D0u:=@Array.getElem?_map
abbrev D0v:=@List.range_succ
abbrev D0w:=@List.getElem_range
abbrev D0x:=@Array.all_eq_true_iff_forall_mem
abbrev D0y:=@List.drop_of_length_le
abbrev D0z:=@List.drop_eq_nil_of_le
abbrev D0A:=@run_program
abbrev E0h:=@List.ext_getElem?
abbrev D0B:=@Array.size_append
abbrev D0C:=@Array.toList_push
abbrev D0D:=@Nat.mul_one
abbrev D0E:=@List.take_zero
abbrev E0d:=@List.drop_zero
abbrev D0F:=@List.drop_drop
abbrev D0I:=@setRow_other
abbrev D0J:=@Nat.add_comm
abbrev D0K:=@List.mem_flatMap
abbrev D0L:=@List.set_append_left
abbrev E0L:=@Bool.and_true
abbrev E0x:=@List.nodup_cons
abbrev D0O:=@Option.bind_eq_bind
abbrev D0P:=@List.getElem?_concat_length
abbrev D0Q:=@mem_ready
abbrev D0R:=@Int.toNat_of_nonneg
abbrev D0S:=@Nat.mul_add_mod
abbrev D0T:=@List.getElem?_range
abbrev D0U:=@Int.tmod_eq_emod_of_nonneg
abbrev D0V:=@Array.toList_setIfInBounds
abbrev D0W:=@List.mem_filterMap
abbrev D0X:=@Nat.zero_mul
abbrev D0Y:=@Nat.eq_zero_or_pos
abbrev D0Z:=@Array.getElem?_pop
abbrev E0a:=@and_true
abbrev E0b:=@Bool.or_true
abbrev E0c:=@grownCap_le_maxLen
abbrev E0m:=@true_and
abbrev E0e:=@List.findIdx?_eq_none_iff
abbrev E0F:=@Bool.and_false
abbrev E0f:=@Comes.of_steps
abbrev E0g:=@List.take_left
abbrev E0i:=@Array.size_modify
abbrev E0j:=@bne_iff_ne
abbrev E0k:=@List.getElem?_take_of_lt
abbrev E0l:=@List.length_range
abbrev E0n:=@Classical.axiomOfChoice
abbrev E0M:=@Bool.and_self
abbrev E0o:=@Nat.add_sub_cancel_left
abbrev E0p:=@setRow_heap
abbrev E0q:=@Int.min_eq_right
abbrev E0r:=@List.isEmpty_iff
abbrev E0s:=@List.getElem_map
abbrev E0t:=@List.ext_getElem
abbrev E0u:=@Nat.lt_of_not_le
abbrev E0v:=@ByteArray.data_extract
abbrev E0w:=@List.find?_cons_of_pos
abbrev E0y:=@Int.min_eq_left
abbrev E0z:=@Option.pure_def
abbrev E0A:=@List.map_map
abbrev E0B:=@Nat.succ_mul
abbrev E0C:=@List.filter_nil
abbrev E0D:=@List.set_set
abbrev E0E:=@run_newObj
abbrev E0G:=@not_or
abbrev E0H:=@size_madeCells
abbrev E0I:=@List.foldl_nil
abbrev E0J:=@Iff.rfl
abbrev E0K:=@Nat.le_succ
abbrev E0N:=@List.all_cons
abbrev E0O:=@Nat.lt_irrefl
abbrev E0P:=@ByteArray.ext
abbrev E0Q:=@List.any_cons
structure TL (a b:World):Prop where
 tape:a.tape=b.tape
 dr:b.drawn≤a.drawn
theorem TL.refl (w:World):TL w w:=⟨rfl,A0m _⟩
theorem TL.trans {a b c:World}(h:TL a b)(k:TL b c):TL a c:=⟨h.tape.trans k.tape,A0J k.dr h.dr⟩
structure Blw (B:Nat)(a w:World):Prop extends RowKit.Below B a w where
 dr:a.drawn≤w.drawn
theorem Blw.refl (B:Nat)(a:World):Blw B a a:=⟨⟨rfl,rfl,rfl,A0m _,fun _ _=>rfl⟩,A0m _⟩
theorem Blw.tl {B:Nat}{a w:World}(h:Blw B a w):TL w a:=⟨h.tape,h.dr⟩
inductive D where
 | v (x:Value)
 | agg (cs:List D)
 | bk (es:List D)
 | ptr (cs:List D)
 | a_ (ds:List D)
 | iW (t:TypeId) (d:D)
 | fn (f:FuncId) (first cr:List D)
 | loc (i off:Nat)
 | sl (i off len:Nat)
 | bS
 | blk (e:TypeId) (sz:Nat) (cs:List D)
 | mp (i:Nat)
 | cg (bU:List D)
 | itb (m n:Nat) (seen:List Nat)
 | Tl (stop:Bool)
 | E3 (s:ByteArray) (pos:Nat)
 | qF (g:Nat) (t:TypeId) (vs:List Value)
 | K9 (i:Nat) (rec:Loop×Code) (sl:List Nat) (cr:List D)
 | yl (l:Nat) (rec:Loop) (sl:List Nat) (cr:List D)
 | st (bs:List D)
 deriving Inhabited
abbrev D.int (n:Int):D:=.v (.int .i64 n)
abbrev D.bool (b:Bool):D:=.v (.bool b)
def D.cells:D→List D
 | .agg cs=>cs
 | d=>[d]
def D.one:D→Bool
 | .agg _ | .a_ _ | .blk _ _ _ | .st _ | .cg _ | .itb _ _ _ | .Tl _ | .E3 _ _ | .qF _ _ _=>false
 | _=>true
def plain:Value→Bool
 | .bool _ | .int _ _ | .float _ _ | .complex _ _ _ | .string _ | .pointer none | .map none | .chan none | .nilFunc | .nilIface=>true
 | .func _ f c=>f.isEmpty&&c.isEmpty
 | _=>false
theorem Fa {x:Value}(h:plain x=true):x.oneCell'=true:=by cases x <;> simp[plain,Value.oneCell'] at *
structure Sets where
 mem:Nat→Nat→Prop
 loc:Nat→Nat
 n:Nat
 cap:Nat→Nat
 hold:Nat→Option Loop:=fun _=>none
 mz:Nat→Loop×Code:=fun _=>default
instance:CoeFun Sets (fun _=>Nat→Nat→Prop):=⟨Sets.mem⟩
structure Sets.Le (S S':Sets):Prop where
 mem:∀b o,S b o→S' b o
 n:S.n≤S'.n
 loc:∀i,i<S.n→S'.loc i=S.loc i
 cap:∀i,i<S.n→S'.cap i=S.cap i
 hold:S'.hold=S.hold
 mz:∀i,i<S.n→S'.mz i=S.mz i
instance:LE Sets:=⟨Sets.Le⟩
theorem Sets.le_refl (S:Sets):S≤S:=⟨fun _ _ h=>h,A0m _,fun _ _=>rfl,fun _ _=>rfl,rfl,fun _ _=>rfl⟩
theorem Sets.le_trans {S T U:Sets}(h:S≤T)(k:T≤U):S≤U:=
 ⟨fun b o x=>k.mem b o (h.mem b o x),A0J h.n k.n,fun i hi=>(k.loc i (A0v hi h.n)).trans (h.loc i hi),fun i hi=>(k.cap i (A0v hi h.n)).trans (h.cap i hi),k.hold.trans h.hold,fun i hi=>(k.mz i (A0v hi h.n)).trans (h.mz i hi)⟩
inductive bA (w:World) (S:Sets):Value→D→Prop
 | v {x:Value} (h:plain x=true):bA w S x (.v x)
 | agg {vs:Array Value} {ds:List D} (hl:vs.size=ds.length) (ho:∀(i:Nat) (d:D),ds[i]? = some d→d.one=true)
   (h:∀(i:Nat) (v:Value) (d:D),vs[i]? = some v→ds[i]? = some d→bA w S v d):bA w S (.agg vs) (.agg ds)
 | nil:bA w S (.slice none 0 0) (.bk [])
 | emp {a:Addr} {cap:Nat} (hm:cap≤maxLen):bA w S (.slice (some a) 0 cap) (.bk [])
 | bk {b off len cap size:Nat} {es:List D} {val:Nat→Nat→Value} (hl:len=es.length) (hc:len≤cap) (hm:cap≤maxLen) (hz:∀(i:Nat) (e:D),es[i]? = some e→e.cells.length=size)
   (ho:∀(i:Nat) (e:D) (j:Nat) (d:D),es[i]? = some e→e.cells[j]? = some d→d.one=true)
   (hS:∀(i:Nat) (e:D) (j:Nat) (d:D),es[i]? = some e→e.cells[j]? = some d→S b (off+i*size+j))
   (hw:∀(i:Nat) (e:D) (j:Nat) (d:D),es[i]? = some e→e.cells[j]? = some d→w.cell? ⟨b,off+i*size+j,none⟩=some (val i j))
   (hr:∀(i:Nat) (e:D) (j:Nat) (d:D),es[i]? = some e→e.cells[j]? = some d→bA w S (val i j) d):bA w S (.slice (some ⟨b,off,none⟩) len cap) (.bk es)
 | ptr {b off:Nat} {cs:List D} {val:Nat→Value} (ho:∀(j:Nat) (d:D),cs[j]? = some d→d.one=true) (hS:∀(j:Nat) (d:D),cs[j]? = some d→S b (off+j))
   (hw:∀(j:Nat) (d:D),cs[j]? = some d→w.cell? ⟨b,off+j,none⟩=some (val j))
   (hr:∀(j:Nat) (d:D),cs[j]? = some d→bA w S (val j) d):bA w S (.pointer (some ⟨b,off,none⟩)) (.ptr cs)
 | a_ {vs:Array Value} {ds:List D} (hl:vs.size=ds.length)
   (h:∀(i:Nat) (v:Value) (d:D),vs[i]? = some v→ds[i]? = some d→bA w S v d):bA w S (.tuple vs) (.a_ ds)
 | iW {t:TypeId} {v:Value} {d:D} (h:bA w S v d):bA w S (.iface t v) (.iW t d)
 | fn {f:FuncId} {us vs:Array Value} {ds es:List D} (hl:us.size=ds.length) (iH:vs.size=es.length)
   (h:∀(i:Nat) (v:Value) (d:D),us[i]? = some v→ds[i]? = some d→bA w S v d) (h':∀(i:Nat) (v:Value) (d:D),vs[i]? = some v→es[i]? = some d→bA w S v d):bA w S (.func (.func f) us vs) (.fn f ds es)
 | loc {i off:Nat} (h:i<S.n):bA w S (.pointer (some ⟨S.loc i,off,none⟩)) (.loc i off)
 | bS:bA w S (.slice none 0 0) .bS
 | yl {l:Nat} {rec:Loop} {sl:List Nat} {cr:List D} (h:S.hold l=some rec) (hc:∀(i s:Nat) (d:D),sl[i]? = some s→cr[i]? = some d→bA w S (rec.tmps.getD s undef) d):bA w S (.func (.yield l) #[] #[]) (.yl l rec sl cr)
 | K9 {i:Nat} {rec:Loop×Code} {sl:List Nat} {cr:List D} (h:i<S.n) (hr:S.mz i=rec) (hc:∀(j s:Nat) (d:D),sl[j]? = some s→cr[j]? = some d→bA w S (rec.1.tmps.getD s undef) d):bA w S (.func (.yield (S.loc i)) #[] #[]) (.K9 i rec sl cr)
 | mp {i:Nat} (h:i<S.n):bA w S (.map (some (S.loc i))) (.mp i)
 | sl {i off len c:Nat} (h:i<S.n) (hl:len≤c) (hc:c≤maxLen) (h0:off=0→c=S.cap i):bA w S (.slice (some ⟨S.loc i,off,none⟩) len c) (.sl i off len)
def bM (S:Sets)(w w':World):Prop:=∀b o,S b o→w'.cell? ⟨b,o,none⟩=w.cell? ⟨b,o,none⟩
theorem bM.refl (S:Sets)(w:World):bM S w w:=fun _ _ _=>rfl
theorem bM.trans {S:Sets}{a b c:World}(h:bM S a b)(k:bM S b c):bM S a c:=fun x o hS=>(k x o hS).trans (h x o hS)
theorem bA.keep {w w':World}{S S':Sets}{v:Value}{d:D}(h:bA w S v d)(hk:bM S w w')(hS:S≤S'):bA w' S' v d:=by
 induction h with
 | v h=>exact .v h
 | agg hl ho _ ih=>exact .agg hl ho ih
 | nil=>exact .nil
 | emp hm=>exact .emp hm
 | bk hl hc hm hz ho tq hw _ ih=>exact .bk hl hc hm hz ho (fun i e j d h1 h2=>hS.mem _ _ (tq i e j d h1 h2)) (fun i e j d h1 h2=>(hk _ _ (tq i e j d h1 h2)).trans (hw i e j d h1 h2)) ih
 | ptr ho tq hw _ ih=>exact .ptr ho (fun j d h1=>hS.mem _ _ (tq j d h1)) (fun j d h1=>(hk _ _ (tq j d h1)).trans (hw j d h1)) ih
 | a_ hl _ ih=>exact .a_ hl ih
 | iW _ ih=>exact .iW ih
 | fn hl iH _ _ ih Qo=>exact .fn hl iH ih Qo
 | bS=>exact .bS
 | yl h _ ih=>exact .yl (by rw[hS.hold];exact h) ih
 | K9 h hr _ ih=>rw[←hS.loc _ h];exact .K9 (A0v h hS.n) ((hS.mz _ h).trans hr) ih
 | mp h=>rw[←hS.loc _ h];exact .mp (A0v h hS.n)
 | loc h=>rw[←hS.loc _ h];exact .loc (A0v h hS.n)
 | sl h hl hc h0=>rw[←hS.loc _ h];exact .sl (A0v h hS.n) hl hc fun e=>(h0 e).trans (hS.cap _ h).symm
mutual
def D.bZ:D→Bool
 | .v _ | .bS | .loc _ _ | .sl _ _ _ | .mp _ | .itb _ _ _ | .Tl _ | .E3 _ _ | .qF _ _ _=>true
 | .agg cs | .bk cs | .ptr cs | .a_ cs | .blk _ _ cs | .cg cs | .st cs | .K9 _ _ _ cs=>aN cs
 | .iW _ d=>d.bZ
 | .fn _ a b=>aN a&&aN b
 | .yl _ _ _ _=>false
def aN:List D→Bool
 | []=>true
 | d :: r=>d.bZ&&aN r
end
theorem dH:∀{ds:List D} {i:Nat} {d:D},aN ds=true→ds[i]? = some d→d.bZ=true
 | [],_,_,_,h=>by simp at h
 | x :: r,0,d,h,hi=>by simp[aN] at h hi;exact hi ▸ h.1
 | x :: r,i+1,d,h,hi=>by simp[aN] at h hi;exact dH h.2 hi
theorem L6 {d c:D}{j:Nat}(h:d.bZ=true)(hc:d.cells[j]? = some c):c.bZ=true:=by
 cases d <;> first
 |(simp only[D.cells] at hc;simp only[D.bZ] at h;exact dH h hc)
 |(cases j with
    | zero=>simp only[D.cells,A0L,A0x] at hc;subst hc;exact h
    | succ j=>simp[D.cells] at hc)
structure Sets.Rs (S S':Sets):Prop where
 mem:∀b o,S b o→S' b o
 n:S.n=S'.n
 loc:∀i,S'.loc i=S.loc i
 cap:∀i,S'.cap i=S.cap i
 mz:∀i,S'.mz i=S.mz i
theorem bA.like {w:World}{S S':Sets}{v:Value}{d:D}(h:bA w S v d)(hS:S.Rs S')(hd:d.bZ=true):bA w S' v d:=by
 induction h with
 | v h=>exact .v h
 | agg hl ho _ ih=>exact .agg hl ho fun i v d h1 h2=>ih i v d h1 h2 (dH (by simpa[D.bZ] using hd) h2)
 | nil=>exact .nil
 | emp hm=>exact .emp hm
 | bk hl hc hm hz ho tq hw _ ih=>exact .bk hl hc hm hz ho (fun i e j d h1 h2=>hS.mem _ _ (tq i e j d h1 h2)) hw fun i e j d h1 h2=>ih i e j d h1 h2 (L6 (dH (by simpa[D.bZ] using hd) h1) h2)
 | ptr ho tq hw _ ih=>exact .ptr ho (fun j d h1=>hS.mem _ _ (tq j d h1)) hw fun j d h1=>ih j d h1 (dH (by simpa[D.bZ] using hd) h1)
 | a_ hl _ ih=>exact .a_ hl fun i v d h1 h2=>ih i v d h1 h2 (dH (by simpa[D.bZ] using hd) h2)
 | iW _ ih=>exact .iW (ih (by simpa[D.bZ] using hd))
 | fn hl iH _ _ ih Qo=>
  simp only[D.bZ,A0f] at hd;exact .fn hl iH (fun i v d h1 h2=>ih i v d h1 h2 (dH hd.1 h2)) fun i v d h1 h2=>Qo i v d h1 h2 (dH hd.2 h2)
 | bS=>exact .bS
 | mp h=>rw[←hS.loc _];exact .mp (by rw[←hS.n];exact h)
 | loc h=>rw[←hS.loc _];exact .loc (by rw[←hS.n];exact h)
 | sl h hl hc h0=>rw[←hS.loc _];exact .sl (by rw[←hS.n];exact h) hl hc fun e=>(h0 e).trans (hS.cap _).symm
 | yl _ _ _=>simp[D.bZ] at hd
 | K9 h hr _ ih=>rw[←hS.loc _];exact .K9 (by rw[←hS.n];exact h) ((hS.mz _).trans hr) fun i s d h1 h2=>ih i s d h1 h2 (dH (by simpa[D.bZ] using hd) h2)
theorem bA.SL {w:World}{S S':Sets}{v:Value}{d:D}(h:bA w S v d)(hS:S.Rs S')(hh:∀l rec,S.hold l=some rec→S'.hold l=some rec):bA w S' v d:=by
 induction h with
 | v h=>exact .v h
 | agg hl ho _ ih=>exact .agg hl ho ih
 | nil=>exact .nil
 | emp hm=>exact .emp hm
 | bk hl hc hm hz ho tq hw _ ih=>exact .bk hl hc hm hz ho (fun i e j d h1 h2=>hS.mem _ _ (tq i e j d h1 h2)) hw ih
 | ptr ho tq hw _ ih=>exact .ptr ho (fun j d h1=>hS.mem _ _ (tq j d h1)) hw ih
 | a_ hl _ ih=>exact .a_ hl ih
 | iW _ ih=>exact .iW ih
 | fn hl iH _ _ ih Qo=>exact .fn hl iH ih Qo
 | bS=>exact .bS
 | mp h=>rw[←hS.loc _];exact .mp (by rw[←hS.n];exact h)
 | loc h=>rw[←hS.loc _];exact .loc (by rw[←hS.n];exact h)
 | sl h hl hc h0=>rw[←hS.loc _];exact .sl (by rw[←hS.n];exact h) hl hc fun e=>(h0 e).trans (hS.cap _).symm
 | yl h _ ih=>exact .yl (hh _ _ h) ih
 | K9 h hr _ ih=>rw[←hS.loc _];exact .K9 (by rw[←hS.n];exact h) ((hS.mz _).trans hr) ih
def D.live:D→Bool
 | .blk _ _ _ | .cg _ | .itb _ _ _ | .Tl _ | .E3 _ _ | .qF _ _ _=>true
 | _=>false
def zI (S:Sets)(i:Nat)(ob:Option Obj):D→Prop
 | .itb m n seen=>m<S.n∧ob=some (.mapIter (some (S.loc m)) n seen.toArray n)
 | .Tl stop=>ob=some (.loop (bif stop then { (S.mz i).1 with state:=.done,pending:=some (S.mz i).2 } else(S.mz i).1))
 | .E3 s pos=>ob=some (.stringIter s pos)
 | .qF g t vs=>S.loc i=g∧ob=some (.cells vs.toArray t (0,0))∧vs.all plain=true
 | _=>False
def D.isIt:D→Bool
 | .itb _ _ _ | .Tl _ | .E3 _ _ | .qF _ _ _=>true
 | _=>false
theorem zI.to {S S':Sets}{i:Nat}{ob:Option Obj}{z:D}(h:zI S i ob z)(hn:S.n≤S'.n)(hl:∀i,i<S.n→S'.loc i=S.loc i)(hr:S'.mz i=S.mz i)(hi:i<S.n):zI S' i ob z:=by
 cases z <;> first | exact h | skip
 ·exact⟨A0v h.1 hn,by rw[hl _ h.1];exact h.2⟩
 ·simp only[zI,hr];exact h
 ·exact⟨(hl _ hi).trans h.1,h.2⟩
theorem D.gb {z:D}(h:z.isIt=true):z.live=true:=by cases z <;> first | rfl | cases h
theorem bA.one {w:World}{S:Sets}{v:Value}{d:D}(h:bA w S v d)(hd:d.one=true):v.oneCell'=true:=by cases h <;> first | exact Fa (by assumption) | rfl | simp[D.one] at hd
theorem bA.NM {w:World}{S:Sets}{v x:Value}(h:bA w S v (.v x)):v=x∧plain x=true:=by cases h;exact⟨rfl,by assumption⟩
theorem bA.kq {w:World}{S:Sets}{v:Value}{ds:List D}(h:bA w S v (.agg ds)):∃vs:Array Value,v=.agg vs∧vs.size=ds.length∧(∀(i:Nat) (d:D),ds[i]? = some d→d.one=true) ∧
  ∀(i:Nat) (v:Value) (d:D),vs[i]? = some v→ds[i]? = some d→bA w S v d:=by
 cases h;exact⟨_,rfl,by assumption,by assumption,by assumption⟩
theorem bA.A1 {w:World}{S:Sets}{v:Value}{ds:List D}(h:bA w S v (.a_ ds)):∃vs:Array Value,v=.tuple vs∧vs.size=ds.length ∧
  ∀(i:Nat) (v:Value) (d:D),vs[i]? = some v→ds[i]? = some d→bA w S v d:=by
 cases h;exact⟨_,rfl,by assumption,by assumption⟩
inductive Kd where
 | int | bool | str | ptr | agg (ks:List Nat) | mp
 deriving DecidableEq,Repr,Inhabited
inductive MOp where
 | GG | ez | get (kd:Kd) (agg:Bool) | xM (kd:Kd) | put (kd:Kd) | XD | JG (neg:Bool) | A5 (t:TypeId) | s8 | same | rng | next | entry | QV (kd:Kd) | YM (kd:Kd) | nw | eD | iJ (len size:Nat) | kN | kM | Iv | Wr | La | Nz | gix (g len sz:Nat) | sib | jO | V8 (n sz:Nat) | uZ | iw (t:TypeId)
 deriving DecidableEq,Repr,Inhabited
inductive E where
 | sym (k:Nat)
 | const (d:D)
 | bin (op:BinOp) (kd:Kd) (a b:E)
 | un (op:UnOp) (a:E)
 | conv (k:IntKind) (a:E)
 | bI (a:E)
 | gy (a:E)
 | aV (a:E)
 | cell (i:Nat) (a:E)
 | cells (i n:Nat) (a:E)
 | bE (n:Nat) (a:E)
 | idx (a i:E)
 | nil
 | cons (a b:E)
 | app (size bytes:Nat) (a b:E)
 | bz (a b:E)
 | cw (a:E)
 | b_ (f:FuncId) (a b:E)
 | sub (size:Nat) (a lo hi:E)
 | set (a i:E) (off:Nat) (x:E)
 | ite (c a b:E)
 | guard (c:E) (want:Bool) (a:E)
 | ai
 | aa (a b:E)
 | av (i:Nat) (a:E)
 | rep (bytes:Nat) (n:E) (d:D)
 | deref (a:E)
 | iW (t:TypeId) (a:E)
 | mm (max:Bool) (a b:E)
 | aj (off:Nat) (a:E)
 | nn (a:E)
 | ax (size:Nat) (a i:E)
 | ld (agg:Bool) (n:Nat) (h p:E)
 | eL (n:Nat) (h p y:E)
 | fO (e:TypeId) (sz:Nat) (h y:E)
 | aJ (h:E)
 | cE (e:TypeId) (sz:Nat) (h l:E)
 | cR (h l:E)
 | gM (e:TypeId) (sz bytes:Nat) (h x y:E)
 | apps (h x y:E)
 | m4 (op:MOp) (a b c d:E)
 deriving Inhabited
def rP (op:BinOp)(a b:Int):Option Bool:=
 match op with
 | .eql=>some (a==b)
 | .neq=>some (a != b)
 | .lss=>some (a<b)
 | .leq=>some (a≤b)
 | .gtr=>some (a > b)
 | .geq=>some (a≥b)
 | _=>none
def Lq (op:BinOp)(k:IntKind)(a b:Int):Option Int:=
 match op with
 | .add=>some (k.wrap (a+b))
 | .sub=>some (k.wrap (a-b))
 | .mul=>some (k.wrap (a*b))
 | .quo=>if b=0 then none else some (k.wrap (a.tdiv b))
 | .rem=>if b=0 then none else some (a.tmod b)
 | .and=>some (k.wrap (BitVec.ofInt k.bits a &&& BitVec.ofInt k.bits b).toNat)
 | .or=>some (k.wrap (BitVec.ofInt k.bits a ||| BitVec.ofInt k.bits b).toNat)
 | .xor=>some (k.wrap (BitVec.ofInt k.bits a ^^^ BitVec.ofInt k.bits b).toNat)
 | .andNot=>some (k.wrap (BitVec.ofInt k.bits a &&& ~~~(BitVec.ofInt k.bits b)).toNat)
 | _=>none
def shI (op:BinOp)(k:IntKind)(a b:Int):Option Int:=
 if b<0 then none else
 match op with
 | .shl=>some (k.wrap (a*2 ^ (min b.toNat k.bits)))
 | .shr=>some (a.fdiv (2 ^ (min b.toNat k.bits)))
 | _=>none
def D.eqs:List Nat→List D→List D→Option Bool
 | [],[],[]=>some true
 | 0 :: ks,.v (.int k a) :: r,.v (.int k' b) :: s=>if k=k' then(D.eqs ks r s).map (a==b&&·) else none
 | 1 :: ks,.v (.bool a) :: r,.v (.bool b) :: s=>(D.eqs ks r s).map (a==b&&·)
 | 2 :: ks,.v (.string a) :: r,.v (.string b) :: s=>(D.eqs ks r s).map (a.toList==b.toList&&·)
 | _,_,_=>none
def D.bin (op:BinOp)(kd:Kd)(x y:D):Option D:=
 match kd,x,y with
 | .int,.v (.int k a),.v (.int k' b)=>
  match op with
  | .shl | .shr=>(shI op k a b).map fun n=>.v (.int k n)
  | _=>if k=k' then(match rP op a b with | some r=>some (.v (.bool r)) | none=>(Lq op k a b).map fun n=>.v (.int k n)) else none
 | .bool,.v (.bool a),.v (.bool b)=>(match op with | .eql=>some (.v (.bool (a==b))) | .neq=>some (.v (.bool (!(a==b)))) | _=>none)
 | .str,.v (.string a),.v (.string b)=>
  (match op with
   | .add=>if((a.size+b.size:Nat):Int) > IntKind.i64.max then none else some (.v (.string (a++b)))
   | .eql=>some (.v (.bool (a.toList==b.toList)))
   | .neq=>some (.v (.bool (!(a.toList==b.toList))))
   | .lss=>some (.v (.bool (Op.bytesLess a.toList b.toList)))
   | .leq=>some (.v (.bool (Op.bytesLess a.toList b.toList||a.toList==b.toList)))
   | .gtr=>some (.v (.bool (!(Op.bytesLess a.toList b.toList||a.toList==b.toList))))
   | .geq=>some (.v (.bool (!(Op.bytesLess a.toList b.toList))))
   | _=>none)
 | .ptr,.v (.pointer none),.v (.pointer none)=>(match op with | .eql=>some (.v (.bool true)) | .neq=>some (.v (.bool false)) | _=>none)
 | .ptr,.loc _ _,.v (.pointer none) | .ptr,.v (.pointer none),.loc _ _=>(match op with | .eql=>some (.v (.bool false)) | .neq=>some (.v (.bool true)) | _=>none)
 | .ptr,.ptr _,.v (.pointer none) | .ptr,.v (.pointer none),.ptr _=>(match op with | .eql=>some (.v (.bool false)) | .neq=>some (.v (.bool true)) | _=>none)
 | .mp,.mp _,.v (.map none)=>(match op with | .eql=>some (.v (.bool false)) | .neq=>some (.v (.bool true)) | _=>none)
 | .mp,.v (.map none),.v (.map none)=>(match op with | .eql=>some (.v (.bool true)) | .neq=>some (.v (.bool false)) | _=>none)
 | .agg ks,.agg xs,.agg ys=>(match op with | .eql=>(D.eqs ks xs ys).map fun b=>.v (.bool b) | .neq=>(D.eqs ks xs ys).map fun b=>.v (.bool (!b)) | _=>none)
 | _,_,_=>none
def D.un (op:UnOp)(x:D):Option D:=
 match op,x with
 | .not,.v (.bool b)=>some (.v (.bool (!b)))
 | .neg,.v (.int k n)=>some (.v (.int k (k.wrap (0-n))))
 | _,_=>none
def D.conv (k:IntKind)(x:D):Option D:=
 match x with
 | .v (.int _ n)=>some (.v (.int k (k.wrap n)))
 | _=>none
def D.bI (x:D):Option D:=
 match x with
 | .bk es=>some (.v (.int .i64 es.length))
 | .sl _ _ n=>some (.v (.int .i64 n))
 | .bS=>some (.v (.int .i64 0))
 | _=>none
def D.gy (x:D):Option D:=
 match x with
 | .v (.string s)=>some (.v (.int .i64 s.size))
 | _=>none
def D.aV (x:D):Option D:=if x.one=true then some x else none
def D.cell (i:Nat)(x:D):Option D:=x.cells[i]?
def D.part (i n:Nat)(x:D):Option D:=
 match x with
 | .agg cs=>if i+n≤cs.length then some (.agg ((cs.drop i).take n)) else none
 | _=>none
def D.bE (n:Nat)(x:D):Option D:=
 match x with
 | .agg cs=>if cs.length=n then some x else none
 | _=>none
def D.idx (x i:D):Option D:=
 match x,i with
 | .bk es,.v (.int _ n)=>if 0≤n then es[n.toNat]? else none
 | _,_=>none
def D.cons (x y:D):Option D:=
 match x,y with
 | .a_ _,_=>none
 | x,.agg cs=>some (.agg (x.cells++cs))
 | _,_=>none
def cC (size:Nat)(xs:List D):Bool:=xs.all fun e=>e.cells.length==size
theorem nF {size:Nat}{xs:List D}(h:cC size xs=true){i:Nat}{e:D}(he:xs[i]? = some e):e.cells.length=size:=by have:=A0C.1 h e (A0I he);simpa using this
def D.app (size bytes:Nat)(x y:D):Option D:=
 match x,y with
 | .bk xs,.bk ys=>if(xs.length+ys.length)*bytes≤140737488355328∧xs.length+ys.length≤maxLen∧cC size xs=true∧cC size ys=true then some (.bk (xs++ys)) else none
 | _,_=>none
def D.bz (x y:D):Option D:=
 match y with
 | .bk ys=>some (.bk (x :: ys))
 | _=>none
def D.cw (x:D):Option D:=
 match x with
 | .agg cs=>some (.ptr cs)
 | _=>none
def D.b_ (f:FuncId)(x y:D):Option D:=
 match x,y with
 | .a_ ds,.a_ es=>some (.fn f ds es)
 | _,_=>none
def D.sub (size:Nat)(x lo hi:D):Option D:=
 match x,lo,hi with
 | .bk es,.v (.int _ l),.v (.int _ h)=>if 0≤l∧l≤h∧h≤(es.length:Int)∧cC size es=true then some (.bk ((es.drop l.toNat).take (h-l).toNat)) else none
 | .sl i off len,.v (.int _ l),.v (.int _ h)=>if 0≤l∧l≤h∧h≤(len:Int)∧0<size then(if l<h∨l=0 then some (.sl i (off+l.toNat*size) (h-l).toNat) else some (.bk [])) else none
 | .bS,.v (.int _ l),.v (.int _ h)=>if l=0∧h=0 then some .bS else none
 | _,_,_=>none
def D.putAt (e:D)(off:Nat)(x:D):Option D:=
 match e with
 | .agg cs=>if off+x.cells.length≤cs.length then some (.agg (cs.take off++x.cells++cs.drop (off+x.cells.length))) else none
 | _=>if off=0∧x.one=true then some x else none
def D.set (a i:D)(off:Nat)(x:D):Option D:=
 match a,i with
 | .bk es,.v (.int _ n)=>if 0≤n then(es[n.toNat]?).bind fun e=>(e.putAt off x).map fun e'=>.bk (es.set n.toNat e') else none
 | _,_=>none
def D.aa (x y:D):Option D:=
 match y with
 | .a_ ds=>some (.a_ (x :: ds))
 | _=>none
def D.av (i:Nat)(x:D):Option D:=
 match x with
 | .a_ ds=>ds[i]?
 | _=>none
def D.rep (bytes:Nat)(n:D)(d:D):Option D:=
 match n with
 | .v (.int .i64 k)=>if 0≤k∧k.toNat*bytes≤140737488355328∧k.toNat≤maxLen then some (.bk (List.replicate k.toNat d)) else none
 | _=>none
def D.deref (x:D):Option D:=
 match x with
 | .ptr cs=>some (.agg cs)
 | _=>none
def D.aj (off:Nat)(x:D):Option D:=
 match x with
 | .ptr cs=>some (.ptr (cs.drop off))
 | .loc i o=>some (.loc i (o+off))
 | _=>none
def D.nn (x:D):Option D:=
 match x with
 | .ptr cs=>some (.ptr cs)
 | .loc i o=>some (.loc i o)
 | .fn f ds es=>some (.fn f ds es)
 | _=>none
def D.ax (size:Nat)(x i:D):Option D:=
 match x,i with
 | .bk es,.v (.int _ n)=>if 0≤n then(es[n.toNat]?).bind fun e=>if e.cells.length=size then some (.ptr e.cells) else none else none
 | .sl j off len,.v (.int _ n)=>if 0≤n∧n<(len:Int) then some (.loc j (off+n.toNat*size)) else none
 | _,_=>none
def D.iJ (len size:Nat)(x i:D):Option D:=
 match i with
 | .v (.int _ n)=>if 0≤n∧n<(len:Int) then D.aj (n.toNat*size) x else none
 | _=>none
def D.eG (h:D)(i:Nat):Option (TypeId×Nat×List D):=
 match h with
 | .st bs=>match bs[i]? with
  | some (.blk e sz cs)=>some (e,sz,cs)
  | _=>none
 | _=>none
def D.aan (h:D)(i:Nat):Option (List D):=
 match h with
 | .st bs=>match bs[i]? with
  | some (.qF _ _ vs)=>some (vs.map D.v)
  | _=>none
 | _=>none
def D.vT (h:D)(i:Nat):Option (List D):=
 match D.eG h i with
 | some b=>some b.2.2
 | none=>D.aan h i
def D.ld (agg:Bool)(n:Nat)(h p:D):Option D:=
 match p with
 | .ptr cs=>if agg then(if n≤cs.length then some (.agg (cs.take n)) else none) else cs[0]?
 | .loc i off=>(D.vT h i).bind fun cs=>if agg then(if off+n≤cs.length then some (.agg ((cs.drop off).take n)) else none) else cs[off]?
 | _=>none
def D.eL (n:Nat)(h p y:D):Option D:=
 match p,h with
 | .loc i off,.st bs=>(D.eG h i).bind fun b=>if y.cells.length=n∧off+n≤b.2.2.length∧y.cells.all (·.one)=true then some (.st (bs.set i (.blk b.1 b.2.1 (b.2.2.take off++y.cells++b.2.2.drop (off+n))))) else none
 | _,_=>none
def D.fO (e:TypeId)(sz:Nat)(h y:D):Option D:=
 match h,y with
 | .st bs,.agg cs=>if cs.all (·.one)=true then some (.st (bs++[.blk e sz cs])) else none
 | _,_=>none
def D.aJ (h:D):Option D:=
 match h with
 | .st bs=>some (.loc bs.length 0)
 | _=>none
def cH (es:List D):List D:=es.flatMap D.cells
def D.cE (e:TypeId)(sz:Nat)(h l:D):Option D:=
 match h,l with
 | .st bs,.bk es=>if cC sz es=true∧(cH es).all (·.one)=true then some (.st (bs++[.blk e sz (cH es)])) else none
 | _,_=>none
def D.cR (h l:D):Option D:=
 match h,l with
 | .st bs,.bk es=>some (.sl bs.length 0 es.length)
 | _,_=>none
def chunks (sz:Nat):Nat→List D→List (List D)
 | 0,_=>[]
 | n+1,cs=>cs.take sz :: chunks sz n (cs.drop sz)
def D.Ic (h:D)(sz:Nat)(y:D):Option (List D):=
 match y with
 | .bk ys=>some ys
 | .bS=>some []
 | .sl j off m=>if m=0 then some [] else(D.eG h j).bind fun b=>if off+m*sz≤b.2.2.length then some ((chunks sz m (b.2.2.drop off)).map .agg) else none
 | _=>none
def D.cnt:D→Option Nat
 | .bk ys=>some ys.length
 | .bS=>some 0
 | .sl _ _ m=>some m
 | _=>none
def D.gM (e:TypeId)(sz bytes:Nat)(h x y:D):Option D:=
 match h,x,D.Ic h sz y with
 | .st bs,.bS,some ys=>if ys=[] then some (.st bs) else
   if ys.length*bytes≤140737488355328∧ys.length≤maxLen∧cC sz ys=true∧(cH ys).all (·.one)=true then some (.st (bs++[.blk e sz (cH ys)])) else none
 | .st bs,.sl i off n,some ys=>if ys=[] then some (.st bs) else
   (D.eG (.st bs) i).bind fun b=>if off=0∧b.1=e∧b.2.1=sz∧b.2.2.length=n*sz∧(n+ys.length)*bytes≤140737488355328∧n+ys.length≤maxLen∧cC sz ys=true∧(cH ys).all (·.one)=true then
    some (.st (bs.set i (.a_ [])++[.blk e sz (b.2.2++cH ys)])) else
   if off=0∧b.1=e∧b.2.1=sz∧n*sz≤b.2.2.length∧(n+ys.length)*bytes≤140737488355328∧n+ys.length≤maxLen∧cC sz ys=true∧(cH ys).all (·.one)=true then
    some (.st (bs.set i (.a_ [])++[.blk e sz (b.2.2.take (n*sz)++cH ys)])) else none
 | _,_,_=>none
def D.apps (h x y:D):Option D:=
 match h,x,D.cnt y with
 | .st bs,.bS,some m=>if m=0 then some .bS else some (.sl bs.length 0 m)
 | .st bs,.sl i off n,some m=>if m=0 then some (.sl i off n) else some (.sl bs.length 0 (n+m))
 | _,_,_=>none
def D.mm (max:Bool)(x y:D):Option D:=
 match x,y with
 | .v (.int k a),.v (.int k' b)=>if k=k' then some (.v (.int k (if max then(if b > a then b else a) else(if b<a then b else a)))) else none
 | _,_=>none
def D.s6 (kd:Kd)(x y:D):Option Bool:=
 match D.bin .eql kd x y with
 | some (.v (.bool b))=>some b
 | _=>none
def D.uJ (kd:Kd)(k:D):List D→Nat→Option (Option (Nat×D))
 | [],_=>some none
 | .a_ [k',u] :: r,i=>match D.s6 kd k k' with
  | some true=>some (some (i,u))
  | some false=>D.uJ kd k r (i+1)
  | none=>none
 | _ :: _,_=>none
def D.Ft (kd:Kd)(k:D):Bool:=
 match kd,k with
 | .agg ks,.agg cs=>cs.length==ks.length
 | .agg _,_=>false
 | _,_=>true
def D.jU (kd:Kd)(k:D)(bU:List D):Option (Option (Nat×D)):=if D.Ft kd k=true then D.uJ kd k bU 0 else none
def D.lost:List D→Bool
 | .a_ [] :: _=>true
 | _=>false
def D.kept:List D→List D
 | .a_ [] :: r=>r
 | l=>l
theorem D.vq {kd:Kd}{k:D}{l:List D}{r:Option (Nat×D)}(h:D.jU kd k l=some r):D.lost l=false:=by
 unfold D.jU at h;split at h
 ·unfold D.lost;split
  ·simp[D.uJ] at h
  ·rfl
 ·cases h
theorem D.rz {l:List D}(h:D.lost l=false):D.kept l=l:=by
 unfold D.lost at h;unfold D.kept;split
 ·cases h
 ·rfl
def D.entries (h m:D):Option (List D):=
 match m with
 | .v (.map none)=>some []
 | .mp i=>(match h with
  | .st bs=>(match bs[i]? with
   | some (.cg bU)=>some (D.kept bU)
   | _=>none)
  | _=>none)
 | _=>none
def D.I2 (kd:Kd)(h m k u:D):Option D:=
 match m,h with
 | .mp i,.st bs=>(match bs[i]? with
  | some (.cg bU)=>(D.jU kd k bU).map fun r=>match r with
   | none=>.st (bs.set i (.cg (bU++[.a_ [k,u]])))
   | some (j,_)=>.st (bs.set i (.cg (bU.set j (.a_ [k,u]))))
  | _=>none)
 | _,_=>none
mutual
def D.gL:D→Bool
 | .v _ | .bS=>true
 | .agg cs | .bk cs | .ptr cs | .a_ cs=>eD cs
 | .iW _ d=>d.gL
 | .fn _ a b=>eD a&&eD b
 | .loc _ _ | .sl _ _ _ | .blk _ _ _ | .mp _ | .cg _ | .itb _ _ _ | .st _ | .yl _ _ _ _ | .Tl _ | .E3 _ _ | .qF _ _ _ | .K9 _ _ _ _=>false
def eD:List D→Bool
 | []=>true
 | d :: r=>d.gL&&eD r
end
theorem f_:∀{ds:List D} {i:Nat} {d:D},eD ds=true→ds[i]? = some d→d.gL=true
 | [],_,_,_,h=>by simp at h
 | x :: r,0,d,h,hi=>by simp[eD] at h hi;exact hi ▸ h.1
 | x :: r,i+1,d,h,hi=>by simp[eD] at h hi;exact f_ h.2 hi
theorem L8 {d c:D}{j:Nat}(h:d.gL=true)(hc:d.cells[j]? = some c):c.gL=true:=by
 cases d <;> first
 |(simp only[D.cells] at hc;simp only[D.gL] at h;exact f_ h hc)
 |(cases j with
    | zero=>simp only[D.cells,A0L,A0x] at hc;subst hc;exact h
    | succ j=>simp[D.cells] at hc)
theorem bA.free {w:World}{S S':Sets}{v:Value}{d:D}(h:bA w S v d)(hS:∀b o,S b o→S' b o)(hd:d.gL=true):bA w S' v d:=by
 induction h with
 | v h=>exact .v h
 | agg hl ho _ ih=>exact .agg hl ho fun i v d h1 h2=>ih i v d h1 h2 (f_ (by simpa[D.gL] using hd) h2)
 | nil=>exact .nil
 | emp hm=>exact .emp hm
 | bk hl hc hm hz ho tq hw _ ih=>exact .bk hl hc hm hz ho (fun i e j d h1 h2=>hS _ _ (tq i e j d h1 h2)) hw fun i e j d h1 h2=>ih i e j d h1 h2 (L8 (f_ (by simpa[D.gL] using hd) h1) h2)
 | ptr ho tq hw _ ih=>exact .ptr ho (fun j d h1=>hS _ _ (tq j d h1)) hw fun j d h1=>ih j d h1 (f_ (by simpa[D.gL] using hd) h1)
 | a_ hl _ ih=>exact .a_ hl fun i v d h1 h2=>ih i v d h1 h2 (f_ (by simpa[D.gL] using hd) h2)
 | iW _ ih=>exact .iW (ih (by simpa[D.gL] using hd))
 | fn hl iH _ _ ih Qo=>
  simp only[D.gL,A0f] at hd;exact .fn hl iH (fun i v d h1 h2=>ih i v d h1 h2 (f_ hd.1 h2)) fun i v d h1 h2=>Qo i v d h1 h2 (f_ hd.2 h2)
 | bS=>exact .bS
 | mp _ | loc _ | sl _ _ _ _ | yl _ _ _ | K9 _ _ _ _=>simp[D.gL] at hd
theorem bA.Cj {w:World}{S S':Sets}{v:Value}{d:D}(h:bA w S v d)(hS:∀b o,S b o→S' b o)(hn:S.n=0)(hh:∀l,S.hold l=none):bA w S' v d:=by
 induction h with
 | v h=>exact .v h
 | agg hl ho _ ih=>exact .agg hl ho ih
 | nil=>exact .nil
 | emp hm=>exact .emp hm
 | bk hl hc hm hz ho tq hw _ ih=>exact .bk hl hc hm hz ho (fun i e j d h1 h2=>hS _ _ (tq i e j d h1 h2)) hw ih
 | ptr ho tq hw _ ih=>exact .ptr ho (fun j d h1=>hS _ _ (tq j d h1)) hw ih
 | a_ hl _ ih=>exact .a_ hl ih
 | iW _ ih=>exact .iW ih
 | fn hl iH _ _ ih Qo=>exact .fn hl iH ih Qo
 | bS=>exact .bS
 | mp h=>omega
 | loc h=>omega
 | sl h _ _ _=>omega
 | yl h _ _=>rw[hh] at h;cases h
 | K9 h _ _ _=>omega
def pQ (bU:List D)(j:Nat):Option (D×D):=
 match bU[j]? with
 | some (.a_ [k,u])=>some (k,u)
 | _=>none
def D.I8 (kd:Kd)(h m k z:D):Option D:=
 (D.entries h m).bind fun bU=>(D.jU kd k bU).map fun r=>match r with
  | none=>.a_ [z,.int bU.length]
  | some (j,u)=>.a_ [u,.int j]
def D.Ol (kd:Kd)(h m k z:D):Option D:=
 match m,h with
 | .mp i,.st bs=>(match bs[i]? with
  | some (.cg bU)=>(D.jU kd k bU).map fun r=>match r with
   | none=>.st (bs.set i (.cg (bU++[.a_ [k,z]])))
   | some (j,u)=>.st (bs.set i (.cg (bU.set j (.a_ [k,u]))))
  | _=>none)
 | _,_=>none
def D.Oj (h m s x:D):Option D:=
 match m,h,s with
 | .mp i,.st bs,.v (.int .i64 n)=>(match bs[i]? with
  | some (.cg bU)=>if 0≤n∧D.lost bU=false then(pQ bU n.toNat).map fun e=>.st (bs.set i (.cg (bU.set n.toNat (.a_ [e.1,x])))) else none
  | _=>none)
 | _,_,_=>none
def D.XA (h m:D):Option D:=
 match m,h with
 | .mp i,.st bs=>(match bs[i]? with
  | some (.cg bU)=>if D.lost bU=true then none else some (.st (bs++[.itb i bU.length []]))
  | _=>none)
 | _,_=>none
def D.place (h p:D):Option (List D×Nat×Nat×Nat×List Nat×List D):=
 match h,p with
 | .st bs,.loc i 0=>(match bs[i]? with
  | some (.itb m n seen)=>(match bs[m]? with
   | some (.cg bU)=>if bU.length=n∧D.lost bU=false then some (bs,i,m,n,seen,bU) else none
   | _=>none)
  | _=>none)
 | _,_=>none
def mQ (n:Nat)(seen:List Nat):List Nat:=(List.range n).filter fun j=>!seen.contains j
def D.Oh (h p:D):Option D:=
 (D.place h p).map fun q=>.bk (if(mQ q.2.2.2.1 q.2.2.2.2.1).isEmpty=true then[.a_ [.a_ [.bool false],.st q.1]]
  else(mQ q.2.2.2.1 q.2.2.2.2.1).filterMap fun j=>(pQ q.2.2.2.2.2 j).map fun e=>.a_ [.a_ [.bool true,e.1,e.2],.st (q.1.set q.2.1 (.itb q.2.2.1 q.2.2.2.1 (q.2.2.2.2.1++[j])))])
def D.GL (h p:D):Option D:=
 (D.place h p).bind fun q=>q.2.2.2.2.1.getLast?.bind fun j=>(pQ q.2.2.2.2.2 j).map fun e=>.a_ [e.1,e.2]
def Value.same:Value→Value→Bool
 | .bool a,.bool b=>a==b
 | .int k a,.int k' b=>decide (k=k')&&decide (a=b)
 | .string a,.string b=>decide (a.data=b.data)
 | .pointer none,.pointer none=>true
 | .map none,.map none=>true
 | .nilFunc,.nilFunc=>true
 | .nilIface,.nilIface=>true
 | _,_=>false
theorem Value.cL {a b : Value} (h : Value.same a b = true) : a = b := by
  unfold Value.same at h;split at h <;> first
    | rfl
    | (simp only [B0K] at h; rw [h])
    | (simp only [A0f, A0t] at h; rw [h.1, h.2])
    | (rename_i x y; simp only [A0t] at h; cases x; cases y; simp only at h; rw [h])
    | cases h
def Value.fq:List Value→List Value→Bool
 | [],[]=>true
 | a :: r,b :: s=>Value.same a b&&Value.fq r s
 | _,_=>false
theorem Value.dB:∀{a b:List Value},Value.fq a b=true→a=b
 | [],[],_=>rfl
 | a :: r,b :: s,h=>by simp only[Value.fq,A0f] at h;rw[Value.cL h.1,Value.dB h.2]
 | [],_ :: _,h | _ :: _,[],h=>by simp[Value.fq] at h
mutual
def D.same:D→D→Bool
 | .v a,.v b=>Value.same a b
 | .agg a,.agg b=>D.fq a b
 | .bk a,.bk b=>D.fq a b
 | .a_ a,.a_ b=>D.fq a b
 | .ptr a,.ptr b=>D.fq a b
 | .bS,.bS=>true
 | .loc i o,.loc i' o'=>decide (i=i')&&decide (o=o')
 | .sl i o n,.sl i' o' n'=>decide (i=i')&&decide (o=o')&&decide (n=n')
 | .mp i,.mp i'=>decide (i=i')
 | .iW t a,.iW t' b=>decide (t=t')&&D.same a b
 | .fn f a b,.fn g c d=>decide (f=g)&&D.fq a c&&D.fq b d
 | .blk e s a,.blk e' s' b=>decide (e=e')&&decide (s=s')&&D.fq a b
 | .cg a,.cg b=>D.fq a b
 | .itb m n s,.itb m' n' s'=>decide (m=m')&&decide (n=n')&&decide (s=s')
 | .Tl b,.Tl c=>b==c
 | .E3 s n,.E3 s' n'=>decide (s=s')&&decide (n=n')
 | .qF g t a,.qF g' t' b=>decide (g=g')&&decide (t=t')&&Value.fq a b
 | .st a,.st b=>D.fq a b
 | _,_=>false
def D.fq:List D→List D→Bool
 | [],[]=>true
 | a :: r,b :: s=>a.same b&&D.fq r s
 | _,_=>false
end
mutual
theorem D.cL:∀{a b:D},D.same a b=true→a=b
 | .v a,b,h=>by cases b <;> first | exact B0q D.v (Value.cL (by simpa[D.same] using h)) | simp[D.same] at h
 | .agg a,b,h=>by cases b <;> first | exact B0q D.agg (D.dB (by simpa[D.same] using h)) | simp[D.same] at h
 | .bk a,b,h=>by cases b <;> first | exact B0q D.bk (D.dB (by simpa[D.same] using h)) | simp[D.same] at h
 | .a_ a,b,h=>by cases b <;> first | exact B0q D.a_ (D.dB (by simpa[D.same] using h)) | simp[D.same] at h
 | .ptr a,b,h=>by cases b <;> first | exact B0q D.ptr (D.dB (by simpa[D.same] using h)) | simp[D.same] at h
 | .bS,b,h=>by cases b <;> first | rfl | simp[D.same] at h
 | .loc _ _,b,h=>by cases b <;> first | (simp only[D.same,A0f,A0t] at h;rw[h.1,h.2]) | simp[D.same] at h
 | .sl _ _ _,b,h=>by cases b <;> first | (simp only[D.same,A0f,A0t] at h;rw[h.1.1,h.1.2,h.2]) | simp[D.same] at h
 | .mp _,b,h=>by cases b <;> first | (simp only[D.same,A0t] at h;rw[h]) | simp[D.same] at h
 | .iW t a,b,h=>by cases b <;> first | (simp only[D.same,A0f,A0t] at h;rw[h.1,D.cL h.2]) | simp[D.same] at h
 | .fn f a b,c,h=>by cases c <;> first | (simp only[D.same,A0f,A0t] at h;rw[h.1.1,D.dB h.1.2,D.dB h.2]) | simp[D.same] at h
 | .blk _ _ _,b,h=>by cases b <;> first | (simp only[D.same,A0f,A0t] at h;rw[h.1.1,h.1.2,D.dB h.2]) | simp[D.same] at h
 | .cg a,b,h=>by cases b <;> first | exact B0q D.cg (D.dB (by simpa[D.same] using h)) | simp[D.same] at h
 | .st a,b,h=>by cases b <;> first | exact B0q D.st (D.dB (by simpa[D.same] using h)) | simp[D.same] at h
 | .itb _ _ _,b,h=>by cases b <;> first | (simp only[D.same,A0f,A0t] at h;rw[h.1.1,h.1.2,h.2]) | simp[D.same] at h
 | .Tl _,b,h=>by cases b <;> first | (simp only[D.same,B0K] at h;rw[h]) | simp[D.same] at h
 | .E3 _ _,b,h=>by cases b <;> first | (simp only[D.same,A0f,A0t] at h;rw[h.1,h.2]) | simp[D.same] at h
 | .qF _ _ _,b,h=>by cases b <;> first | (simp only[D.same,A0f,A0t] at h;rw[h.1.1,h.1.2,Value.dB h.2]) | simp[D.same] at h
 | .yl _ _ _ _,_,h | .K9 _ _ _ _,_,h=>by simp[D.same] at h
theorem D.dB:∀{a b:List D},D.fq a b=true→a=b
 | [],[],_=>rfl
 | a :: r,b :: s,h=>by simp only[D.fq,A0f] at h;rw[D.cL h.1,D.dB h.2]
 | [],_ :: _,h | _ :: _,[],h=>by simp[D.fq] at h
end
def D.kN (x i:D):Option D:=
 match x,i with
 | .v (.string s),.v (.int _ n)=>if 0≤n then(s[n.toNat]?).map fun b=>.v (.int .u8 b.toNat) else none
 | _,_=>none
def D.kM (x l h:D):Option D:=
 match x,l,h with
 | .v (.string s),.v (.int _ a),.v (.int _ b)=>if 0≤a∧a≤b∧b≤s.size then some (.v (.string (s.extract a.toNat b.toNat))) else none
 | _,_,_=>none
def bytesOf:List D→Option (List Int)
 | []=>some []
 | e :: r=>match e.cells with
  | [.v (.int .u8 n)]=>(bytesOf r).map (n :: ·)
  | _=>none
def D.Nz (x:D):Option D:=
 match x with
 | .bk es=>(bytesOf es).map fun ns=>.v (.string (strOfNums ns))
 | _=>none
def D.Iv (h s:D):Option D:=
 match h,s with
 | .st bs,.v (.string s)=>some (.st (bs++[.E3 s 0]))
 | _,_=>none
def D.BO (h p:D):Option (List D×Nat×ByteArray×Nat):=
 match h,p with
 | .st bs,.loc i 0=>(match bs[i]? with
  | some (.E3 s n)=>some (bs,i,s,n)
  | _=>none)
 | _,_=>none
def D.Wr (h p:D):Option D:=(D.BO h p).map fun q=>.st (if q.2.2.2<q.2.2.1.size then q.1.set q.2.1 (.E3 q.2.2.1 (q.2.2.2+(Utf8.decode q.2.2.1 q.2.2.2).2)) else q.1)
def D.La (h p:D):Option D:=(D.BO h p).map fun q=>if q.2.2.2<q.2.2.1.size then .a_ [.bool true,.int q.2.2.2,.v (.int .i32 (Utf8.decode q.2.2.1 q.2.2.2).1)] else .a_ [.bool false]
def rI (g:Nat):List D→Nat→Option Nat
 | [],_=>none
 | .qF g' _ _ :: r,j=>if g'=g then some j else rI g r (j+1)
 | _ :: r,j=>rI g r (j+1)
def D.gix (g len sz:Nat)(h i:D):Option D:=
 match h,i with
 | .st bs,.v (.int _ n)=>if 0≤n∧n<(len:Int) then(rI g bs 0).map fun j=>.loc j (n.toNat*sz) else none
 | _,_=>none
def D.sib (x c:D):Option D:=
 match x,c with
 | .v (.string s),.v (.int .u8 c)=>some (.int (firstIdx s c.toNat.toUInt8))
 | _,_=>none
def fH (s:ByteArray):List D:=s.data.toList.map fun b=>.v (.int .u8 b.toNat)
def D.jO (x:D):Option D:=
 match x with
 | .v (.string s)=>if s.size≤maxLen then some (.bk (fH s)) else none
 | _=>none
def D.V8 (n sz:Nat)(p lo:D):Option D:=
 match p,lo with
 | .loc i off,.v (.int _ l)=>if 0≤l∧l<(n:Int)∧0<off+l.toNat*sz then some (.sl i (off+l.toNat*sz) (n-l.toNat)) else none
 | _,_=>none
def D.uZ (h x:D):Option D:=
 match x with
 | .bS=>some (.v (.string .empty))
 | .sl i off n=>(D.eG h i).bind fun b=>if off+n≤b.2.2.length∧0<n then(bytesOf ((b.2.2.drop off).take n)).map fun ns=>.v (.string (strOfNums ns)) else none
 | x=>D.Nz x
def D.iw (t:TypeId)(x:D):Option D:=
 match x with
 | .iW t' y=>if t'=t then some y else none
 | _=>none
def D.m4 (op:MOp)(a b c d:D):Option D:=
 match op with
 | .kN=>D.kN a b
 | .Nz=>D.Nz a
 | .Iv=>D.Iv a b
 | .Wr=>D.Wr a b
 | .La=>D.La a b
 | .kM=>D.kM a b c
 | .gix g len sz=>D.gix g len sz a b
 | .sib=>D.sib a b
 | .jO=>D.jO a
 | .V8 n sz=>D.V8 n sz a b
 | .uZ=>D.uZ a b
 | .iw t=>D.iw t a
 | .GG=>(match a with | .st bs=>some (.st (bs++[.cg []])) | _=>none)
 | .ez=>(match a with | .st bs=>some (.mp bs.length) | _=>none)
 | .get kd g=>(D.entries a b).bind fun bU=>(D.jU kd c bU).bind fun r=>
   let x:=match r with | some (_,u)=>u | none=>d
   if g=true∨x.one=true then some x else none
 | .xM kd=>(D.entries a b).bind fun bU=>(D.jU kd c bU).map fun r=>match r with | some (_,u)=>.a_ [u,.bool true] | none=>.a_ [d,.bool false]
 | .put kd=>D.I2 kd a b c d
 | .XD=>(D.entries a b).map fun bU=>.int bU.length
 | .JG neg=>(match a with | .iW _ _=>some (.bool neg) | .v .nilIface=>some (.bool (!neg)) | _=>none)
 | .A5 t=>(match a with | .iW t' x=>some (if t'=t then .a_ [x,.bool true] else .a_ [b,.bool false]) | .v .nilIface=>some (.a_ [b,.bool false]) | _=>none)
 | .s8=>(match a with | .iW t x=>some (.iW t x) | _=>none)
 | .same=>if D.same a b=true then some a else none
 | .rng=>D.XA a b
 | .next=>D.Oh a b
 | .entry=>D.GL a b
 | .QV kd=>D.I8 kd a b c d
 | .YM kd=>D.Ol kd a b c d
 | .nw=>D.Oj a b c d
 | .eD=>if a.gL=true then some a else none
 | .iJ n k=>D.iJ n k a b
abbrev D.undef:D:=.a_ []
def E.eval (env:List D):E→Option D
 | .sym k=>env[k]?
 | .const d=>some d
 | .bin op kd a b=>(a.eval env).bind fun x=>(b.eval env).bind fun y=>D.bin op kd x y
 | .un op a=>(a.eval env).bind (D.un op)
 | .conv k a=>(a.eval env).bind (D.conv k)
 | .bI a=>(a.eval env).bind D.bI
 | .gy a=>(a.eval env).bind D.gy
 | .aV a=>(a.eval env).bind D.aV
 | .cell i a=>(a.eval env).bind (D.cell i)
 | .cells i n a=>(a.eval env).bind (D.part i n)
 | .bE n a=>(a.eval env).bind (D.bE n)
 | .idx a i=>(a.eval env).bind fun x=>(i.eval env).bind fun y=>D.idx x y
 | .nil=>some (.agg [])
 | .cons a b=>(a.eval env).bind fun x=>(b.eval env).bind fun y=>D.cons x y
 | .app n m a b=>(a.eval env).bind fun x=>(b.eval env).bind fun y=>D.app n m x y
 | .bz a b=>(a.eval env).bind fun x=>(b.eval env).bind fun y=>D.bz x y
 | .cw a=>(a.eval env).bind D.cw
 | .b_ f a b=>(a.eval env).bind fun x=>(b.eval env).bind fun y=>D.b_ f x y
 | .sub n a l h=>(a.eval env).bind fun x=>(l.eval env).bind fun y=>(h.eval env).bind fun z=>D.sub n x y z
 | .set a i off x=>(a.eval env).bind fun l=>(i.eval env).bind fun n=>(x.eval env).bind fun y=>D.set l n off y
 | .ite g a b=>match g.eval env with
  | some (.v (.bool true))=>a.eval env
  | some (.v (.bool false))=>b.eval env
  | _=>none
 | .guard g want a=>match g.eval env with
  | some (.v (.bool b))=>if b=want then a.eval env else some D.undef
  | _=>none
 | .ai=>some (.a_ [])
 | .aa a b=>(a.eval env).bind fun x=>(b.eval env).bind fun y=>D.aa x y
 | .av i a=>(a.eval env).bind (D.av i)
 | .rep b n d=>(n.eval env).bind fun x=>D.rep b x d
 | .deref a=>(a.eval env).bind D.deref
 | .iW t a=>(a.eval env).map (.iW t)
 | .mm m a b=>(a.eval env).bind fun x=>(b.eval env).bind fun y=>D.mm m x y
 | .aj k a=>(a.eval env).bind (D.aj k)
 | .nn a=>(a.eval env).bind D.nn
 | .ax n a b=>(a.eval env).bind fun x=>(b.eval env).bind fun y=>D.ax n x y
 | .ld g n a b=>(a.eval env).bind fun x=>(b.eval env).bind fun y=>D.ld g n x y
 | .eL n a b c=>(a.eval env).bind fun x=>(b.eval env).bind fun y=>(c.eval env).bind fun z=>D.eL n x y z
 | .fO e n a b=>(a.eval env).bind fun x=>(b.eval env).bind fun y=>D.fO e n x y
 | .aJ a=>(a.eval env).bind D.aJ
 | .cE e n a b=>(a.eval env).bind fun x=>(b.eval env).bind fun y=>D.cE e n x y
 | .cR a b=>(a.eval env).bind fun x=>(b.eval env).bind fun y=>D.cR x y
 | .gM e n m a b c=>(a.eval env).bind fun x=>(b.eval env).bind fun y=>(c.eval env).bind fun z=>D.gM e n m x y z
 | .apps a b c=>(a.eval env).bind fun x=>(b.eval env).bind fun y=>(c.eval env).bind fun z=>D.apps x y z
 | .m4 op a b c d=>(a.eval env).bind fun x=>(b.eval env).bind fun y=>(c.eval env).bind fun z=>(d.eval env).bind fun u=>D.m4 op x y z u
theorem E.ck {env env' : List D} (h : env <+: env') : ∀ (x : E) {d : D}, x.eval env = some d → x.eval env' = some d := by
  obtain ⟨r, rfl⟩ := h;intro x
  induction x <;> intro d hd <;> simp only [E.eval, A0b, A0a] at hd ⊢
  case sym k =>
    have hk : k < env.length := (A0c.1 hd).1;rw [A0g hk];exact hd
  case ite c a b hc ha hb =>
    cases h : c.eval env with
    | none => simp [h] at hd
    | some y =>
      rw [hc h];rw [h] at hd;split at hd <;> first | (rename_i e; cases e; exact ha hd) | (rename_i e; cases e; exact hb hd) | simp at hd
  case guard c want a hc ha =>
    cases h : c.eval env with
    | none => simp [h] at hd
    | some y =>
      rw [hc h];rw [h] at hd;split at hd
      · rename_i e
        cases e;split at hd
        · rename_i hb; rw [A0z hb]; exact ha hd
        · rename_i hb; rw [A0B hb]; exact hd
      · simp at hd
  all_goals first
    | exact hd
    | (rename_i ha; obtain ⟨x, h1, h2⟩ := hd; exact ⟨x, ha h1, h2⟩)
    | (rename_i ha hb; obtain ⟨x, h1, y, h2, h3⟩ := hd; exact ⟨x, ha h1, y, hb h2, h3⟩)
    | (rename_i ha hb hc; obtain ⟨x, h1, y, h2, z, h3, h4⟩ := hd; exact ⟨x, ha h1, y, hb h2, z, hc h3, h4⟩)
    | (rename_i ha hb hc he; obtain ⟨x, h1, y, h2, z, h3, u, h4, h5⟩ := hd; exact ⟨x, ha h1, y, hb h2, z, hc h3, u, he h4, h5⟩)
end
section
noncomputable section
inductive SV where
 | cz
 | e (x:E) (s:Bool)
 | agg (cs:List SV)
 | a_ (vs:List SV)
 | addr (o off:Nat)
 | ax (o:Nat) (i:E) (size off:Nat)
 | ij (x:E) (off:Nat)
 | own (x:E) (k:Nat)
 | mE (o:Nat)
 | func (fn:Fn) (cap:List SV)
 | cond (act:List (E×Bool)) (sv:SV)
 deriving Inhabited
structure cF where
 ro:Bool
 wr:List Nat
 B_:List Nat
 adr:List Nat
 ee:List Nat
 M3:List (Nat×Nat)
 keep:List Nat:=[]
 aS:Bool:=false
 maps:List TypeId:=[]
 XK:List Nat:=[]
 cn:Bool:=false
 CY:List (Nat×Nat):=[]
 deriving Inhabited,DecidableEq
def br:Nat:=1000000
inductive aY where
 | box (cs:List SV)
 | row (x:E) (size:Nat)
 | tok (elem:TypeId) (size:Nat)
 | store (cf:cF) (x:E)
 deriving Inhabited
def aY.ro:aY→Bool
 | .store cf _=>cf.ro
 | _=>false
structure ah where
 tmps:List SV
 mem:List (Option aY)
 hs:Option aY
 deriving Inhabited
def Xc {α:Type}(x0:α)(l:List α):Nat→α:=List.rec (motive:=fun _=>Nat→α) (fun _=>x0) (fun x _ ih n=>Nat.rec (motive:=fun _=>α) x (fun m _=>ih m) n) l
def SG {α:Type}(x:α)(l:List α):Nat→List α:=List.rec (motive:=fun _=>Nat→List α) (fun _=>[]) (fun y r ih n=>Nat.rec (motive:=fun _=>List α) (x :: r) (fun m _=>y :: ih m) n) l
def PT {α β:Type}(f:α→β)(l:List α):List β:=List.rec (motive:=fun _=>List β) [] (fun x _ ih=>f x :: ih) l
theorem Gq {α:Type}(x0:α):∀(l:List α) (n:Nat),Xc x0 l n=l.getD n x0
 | [],_=>rfl
 | _ :: _,0=>rfl
 | _ :: r,n+1=>by show Xc x0 r n=_;rw[Gq x0 r n];simp[List.getD]
theorem A6 {α:Type}(x:α):∀(l:List α) (n:Nat),SG x l n=l.set n x
 | [],_=>rfl
 | _ :: _,0=>rfl
 | y :: r,n+1=>by show y :: SG x r n=y :: r.set n x;rw[A6 x r n]
theorem A8 {α β:Type}(f:α→β):∀l:List α,PT f l=l.map f
 | []=>rfl
 | x :: r=>by show f x :: PT f r=f x :: r.map f;rw[A8 f r]
def ah.tmp (σ:ah)(t:Nat):SV:=Xc .cz σ.tmps t
def ah.obj (σ:ah)(o:Nat):Option aY:=if o=br then σ.hs else Xc none σ.mem o
def ah.put (σ:ah)(dst:Option Tmp)(sv:SV):ah:=match dst with | some d=>{ σ with tmps:=SG sv σ.tmps d } | none=>σ
def ah.setObj (σ:ah)(o:Nat)(x:Option aY):ah:=if o=br then { σ with hs:=x } else { σ with mem:=SG x σ.mem o }
theorem ah.gD (σ:ah)(t:Nat):σ.tmp t=σ.tmps.getD t .cz:=Gq _ _ _
theorem ah.ey (σ:ah)(o:Nat):σ.obj o=if o=br then σ.hs else σ.mem.getD o none:=by unfold ah.obj;rw[Gq]
theorem ah.ff (σ:ah)(dst:Option Tmp)(sv:SV):σ.put dst sv=match dst with | some d=>{ σ with tmps:=σ.tmps.set d sv } | none=>σ:=by unfold ah.put;cases dst <;> simp only[A6]
theorem ah.eU (σ:ah)(o:Nat)(x:Option aY):σ.setObj o x=if o=br then { σ with hs:=x } else { σ with mem:=σ.mem.set o x }:=by unfold ah.setObj;rw[A6]
structure dD where
 blk:Nat→Nat
 val:Nat→Value
 S:Sets
 az:Nat→Prop
def bq (env:List D)(act:List (E×Bool)):Prop:=∀p,p∈act→p.1.eval env=some (.bool p.2)
inductive cS (w:World) (ρ:dD) (env:List D):Value→SV→Prop
 | cz {v:Value}:cS w ρ env v .cz
 | e {v:Value} {x:E} {s:Bool} {d:D} (hx:x.eval env=some d) (h:bA w ρ.S v d) (h1:s=true→d.one=true):cS w ρ env v (.e x s)
 | agg {vs:Array Value} {cs:List SV} (hl:vs.size=cs.length) (ho:∀(i:Nat) (v:Value),vs[i]? = some v→v.oneCell'=true)
   (h:∀(i:Nat) (v:Value) (c:SV),vs[i]? = some v→cs[i]? = some c→cS w ρ env v c):cS w ρ env (.agg vs) (.agg cs)
 | a_ {vs:Array Value} {cs:List SV} (hl:vs.size=cs.length)
   (h:∀(i:Nat) (v:Value) (c:SV),vs[i]? = some v→cs[i]? = some c→cS w ρ env v c):cS w ρ env (.tuple vs) (.a_ cs)
 | addr {o off:Nat}:cS w ρ env (.pointer (some ⟨ρ.blk o,off,none⟩)) (.addr o off)
 | ax {o size off n:Nat} {x:E} {k:IntKind} (hx:x.eval env=some (.v (.int k n))):cS w ρ env (.pointer (some ⟨ρ.blk o,n*size+off,none⟩)) (.ax o x size off)
 | ij {v:Value} {x:E} {off:Nat} {d:D} (hx:x.eval env=some d) (h:bA w ρ.S v (.ptr (d.cells.drop off))):cS w ρ env v (.ij x off)
 | own {v:Value} {x:E} {k:Nat} {es:List D} (hx:x.eval env=some (.bk es)) (h:bA w ρ.S v (.bk es)) (hv:v=ρ.val k):cS w ρ env v (.own x k)
 | mE {o:Nat}:cS w ρ env (ρ.val o) (.mE o)
 | func {fn:Fn} {vs:Array Value} {cs:List SV} (hl:vs.size=cs.length)
   (h:∀(i:Nat) (v:Value) (c:SV),vs[i]? = some v→cs[i]? = some c→cS w ρ env v c):cS w ρ env (.func fn #[] vs) (.func fn cs)
 | cond {v:Value} {act:List (E×Bool)} {sv:SV} (hd:∀p,p∈act→∃d,p.1.eval env=some d) (h:bq env act→cS w ρ env v sv) (hn:¬bq env act→v=undef):cS w ρ env v (.cond act sv)
section
variable {w:World} {ρ:dD} {env:List D} {v:Value}
theorem cS.jL {x:E}{s:Bool}(h:cS w ρ env v (.e x s)):∃d,x.eval env=some d∧bA w ρ.S v d∧(s=true→d.one=true):=by generalize hs:SV.e x s=sv at h;cases h <;> cases hs;exact⟨_,by assumption,by assumption,by assumption⟩
theorem cS.kq {cs:List SV}(h:cS w ρ env v (.agg cs)):∃vs:Array Value,v=.agg vs∧vs.size=cs.length∧(∀(i:Nat) (v:Value),vs[i]? = some v→v.oneCell'=true)∧∀(i:Nat) (v:Value) (c:SV),vs[i]? = some v→cs[i]? = some c→cS w ρ env v c:=by generalize hs:SV.agg cs=sv at h;cases h <;> cases hs;exact⟨_,rfl,by assumption,by assumption,by assumption⟩
theorem cS.A1 {cs:List SV}(h:cS w ρ env v (.a_ cs)):∃vs:Array Value,v=.tuple vs∧vs.size=cs.length∧∀(i:Nat) (v:Value) (c:SV),vs[i]? = some v→cs[i]? = some c→cS w ρ env v c:=by generalize hs:SV.a_ cs=sv at h;cases h <;> cases hs;exact⟨_,rfl,by assumption,by assumption⟩
theorem cS.j6 {o off:Nat}(h:cS w ρ env v (.addr o off)):v=.pointer (some ⟨ρ.blk o,off,none⟩):=by generalize hs:SV.addr o off=sv at h;cases h <;> cases hs;rfl
theorem cS.nP {o size off:Nat}{x:E}(h:cS w ρ env v (.ax o x size off)):∃(n:Nat) (k:IntKind),x.eval env=some (.v (.int k n))∧v=.pointer (some ⟨ρ.blk o,n*size+off,none⟩):=by generalize hs:SV.ax o x size off=sv at h;cases h <;> cases hs;exact⟨_,_,by assumption,rfl⟩
theorem cS.s9 {off:Nat}{x:E}(h:cS w ρ env v (.ij x off)):∃d,x.eval env=some d∧bA w ρ.S v (.ptr (d.cells.drop off)):=by generalize hs:SV.ij x off=sv at h;cases h <;> cases hs;exact⟨_,by assumption,by assumption⟩
theorem cS.wO {k:Nat}{x:E}(h:cS w ρ env v (.own x k)):∃es,x.eval env=some (.bk es)∧bA w ρ.S v (.bk es)∧v=ρ.val k:=by generalize hs:SV.own x k=sv at h;cases h <;> cases hs;exact⟨_,by assumption,by assumption,by assumption⟩
theorem cS.qM {o:Nat}(h:cS w ρ env v (.mE o)):v=ρ.val o:=by generalize hs:SV.mE o=sv at h;cases h <;> cases hs;rfl
theorem cS.oh {fn:Fn}{cs:List SV}(h:cS w ρ env v (.func fn cs)):∃vs:Array Value,v=.func fn #[] vs∧vs.size=cs.length∧∀(i:Nat) (v:Value) (c:SV),vs[i]? = some v→cs[i]? = some c→cS w ρ env v c:=by generalize hs:SV.func fn cs=sv at h;cases h <;> cases hs;exact⟨_,rfl,by assumption,by assumption⟩
theorem cS.KF {act:List (E×Bool)}{sv:SV}(h:cS w ρ env v (.cond act sv)):(∀p,p∈act→∃d,p.1.eval env=some d)∧(bq env act→cS w ρ env v sv)∧(¬bq env act→v=undef):=by generalize hs:SV.cond act sv=sv' at h;cases h <;> cases hs;exact⟨by assumption,by assumption,by assumption⟩
end
mutual
def SV.aM (o:Nat):SV→Bool
 | .cz | .e _ _ | .ij _ _=>true
 | .agg cs | .a_ cs=>SV.dL o cs
 | .func _ cs=>SV.dL o cs
 | .addr o' _ | .ax o' _ _ _ | .own _ o' | .mE o'=>o' != o
 | .cond _ sv=>sv.aM o
def SV.dL (o:Nat):List SV→Bool
 | []=>true
 | s :: r=>s.aM o&&SV.dL o r
end
theorem SV.eR {o:Nat}:∀{cs:List SV} {i:Nat} {c:SV},SV.dL o cs=true→cs[i]? = some c→c.aM o=true
 | [],i,c,_,h=>by simp at h
 | s :: r,0,c,h,hi=>by simp[SV.dL] at h hi;exact hi ▸ h.1
 | s :: r,i+1,c,h,hi=>by simp[SV.dL] at h hi;exact SV.eR h.2 hi
def aY.aM (o:Nat):aY→Bool
 | .box cs=>SV.dL o cs
 | .row _ _ | .tok _ _ | .store _ _=>true
structure dD.Le (ρ ρ':dD)(ex:Nat→Prop):Prop where
 blk:∀o,¬ex o→ρ'.blk o=ρ.blk o
 val:∀o,¬ex o→ρ'.val o=ρ.val o
 S:ρ.S≤ρ'.S
structure dD.tO (ρ ρ':dD)(ex:Nat→Prop):Prop extends dD.Le ρ ρ' ex where
 n:¬ex br→ρ'.S.n=ρ.S.n
 az:¬ex br→ρ'.az=ρ.az
theorem dD.tO.refl (ρ:dD)(ex:Nat→Prop):ρ.tO ρ ex:=⟨⟨fun _ _=>rfl,fun _ _=>rfl,Sets.le_refl _⟩,fun _=>rfl,fun _=>rfl⟩
theorem j7 {env env':List D}(h:env <+: env'){act:List (E×Bool)}(hd:∀p,p∈act→∃d,p.1.eval env=some d)(ha:bq env' act):bq env act:=by intro p hp;obtain⟨b,hb⟩:=hd p hp;have h1:=ha p hp;rw[E.ck h _ hb] at h1;rw[hb];exact h1
theorem tL {env env':List D}(h:env <+: env'){act:List (E×Bool)}(ha:bq env act):bq env' act:=fun p hp=>E.ck h _ (ha p hp)
theorem cS.env {w:World}{ρ:dD}{env env':List D}{v:Value}{sv:SV}(h:cS w ρ env v sv)(he:env <+: env'):cS w ρ env' v sv:=by
 induction h with
 | cz=>exact .cz
 | e hx h h1=>exact .e (E.ck he _ hx) h h1
 | agg hl ho _ ih=>exact .agg hl ho ih
 | a_ hl _ ih=>exact .a_ hl ih
 | addr=>exact .addr
 | ax hx=>exact .ax (E.ck he _ hx)
 | ij hx h=>exact .ij (E.ck he _ hx) h
 | own hx h hv=>exact .own (E.ck he _ hx) h hv
 | mE=>exact .mE
 | func hl _ ih=>exact .func hl ih
 | cond hd _ hn ih=>exact .cond (fun p hp=>let ⟨d,h⟩:=hd p hp;⟨d,E.ck he _ h⟩) (fun ha=>ih (j7 he hd ha)) fun ha=>hn fun h=>ha (tL he h)
theorem cS.z_ {w w':World}{ρ ρ':dD}{ex:Nat→Prop}{env:List D}{v:Value}{sv:SV}(h:cS w ρ env v sv)(hk:bM ρ.S w w')(hm:ρ.Le ρ' ex)(ha:∀o,ex o→sv.aM o=true):cS w' ρ' env v sv:=by
 induction h with
 | cz=>exact .cz
 | e hx h h1=>exact .e hx (h.keep hk hm.S) h1
 | agg hl ho _ ih=>exact .agg hl ho fun i v c h1 h2=>ih i v c h1 h2 fun o ho=>SV.eR (by simpa[SV.aM] using ha o ho) h2
 | a_ hl _ ih=>exact .a_ hl fun i v c h1 h2=>ih i v c h1 h2 fun o ho=>SV.eR (by simpa[SV.aM] using ha o ho) h2
 | @addr o off=>
  rw[←hm.blk o (fun ho=>by have:=ha o ho;simp[SV.aM] at this)];exact .addr
 | @ax o size off n x k hx=>
  rw[←hm.blk o (fun ho=>by have:=ha o ho;simp[SV.aM] at this)];exact .ax hx
 | ij hx h=>exact .ij hx (h.keep hk hm.S)
 | @own v x k es hx h hv=>exact .own hx (h.keep hk hm.S) (hv.trans (hm.val k (fun ho=>by have:=ha k ho;simp[SV.aM] at this)).symm)
 | @mE o=>
  rw[←hm.val o (fun ho=>by have:=ha o ho;simp[SV.aM] at this)];exact .mE
 | func hl _ ih=>exact .func hl fun i v c h1 h2=>ih i v c h1 h2 fun o ho=>SV.eR (by simpa[SV.aM] using ha o ho) h2
 | cond hd _ hn ih=>exact .cond hd (fun hh=>ih hh fun o ho=>by simpa[SV.aM] using ha o ho) hn
theorem cS.keep {w w':World}{ρ ρ':dD}{ex:Nat→Prop}{env:List D}{v:Value}{sv:SV}(h:cS w ρ env v sv)(hk:bM ρ.S w w')(hm:ρ.tO ρ' ex)(ha:∀o,ex o→sv.aM o=true):cS w' ρ' env v sv:=h.z_ hk hm.toLe ha
def bN (ρ:dD)(o:Nat):aY→Nat→Prop
 | .box _,b | .row _ _,b=>ρ.blk o=b
 | .tok _ _,b=>(ρ.val o).ownBlock=some b
 | .store _ _,b=>ρ.az b
structure u7 (es:Array MapEntry)(clock n:Nat):Prop where
 len:es.size=n
 clk:clock=n
 born:∀(j:Nat) (x:MapEntry),es[j]? = some x→x.born=j
def gG (es:Array MapEntry)(clock:Nat)(bU:List D):Prop:=if D.lost bU=true then es.size=(D.kept bU).length else u7 es clock bU.length
theorem gG.size {es:Array MapEntry}{clock:Nat}{bU:List D}(h:gG es clock bU):es.size=(D.kept bU).length:=by
 unfold gG at h;split at h
 ·exact h
 ·rename_i hl;rw[D.rz (by simpa using hl)];exact h.len
theorem gG.sz {es:Array MapEntry}{clock:Nat}{bU:List D}(h:gG es clock bU)(hl:D.lost bU=false):u7 es clock bU.length:=by unfold gG at h;rwa [A0B (by simp[hl])] at h
theorem gG.of {es:Array MapEntry}{clock:Nat}{bU:List D}(h:u7 es clock bU.length)(hl:D.lost bU=false):gG es clock bU:=by unfold gG;rwa [A0B (by simp[hl])]
def K3:TypeId:=1000000000
def nI (w:World)(b:Nat)(vs:Array Value)(e:TypeId):Prop:=∃e',w.heap[b]? = some (.cells vs e' (0,0))∧(e=K3∨e'=e)
theorem nI.of {w:World}{b:Nat}{vs:Array Value}{e:TypeId}(h:w.heap[b]? = some (.cells vs e (0,0))):nI w b vs e:=⟨e,h,.inr rfl⟩
theorem nI.to {w w':World}{b:Nat}{vs:Array Value}{e:TypeId}(h:nI w b vs e)(hh:w'.heap[b]? = w.heap[b]?):nI w' b vs e:=by obtain⟨e',h1,h2⟩:=h;exact⟨e',hh.trans h1,h2⟩
structure cI (w:World)(S:Sets)(az:Nat→Prop)(bs:List D):Prop where
 n:S.n=bs.length
 cells:∀(i:Nat) (e:TypeId) (sz:Nat) (cs:List D),bs[i]? = some (.blk e sz cs)→az (S.loc i)∧∃vs:Array Value,nI w (S.loc i) vs e∧vs.size=S.cap i*sz∧cs.length≤vs.size ∧
  (∀(j:Nat) (d:D),cs[j]? = some d→d.one=true)∧(∀(j:Nat) (v:Value) (d:D),vs[j]? = some v→cs[j]? = some d→bA w S v d)∧∀off,¬S (S.loc i) off
 v_:∀b off,az b→¬S b off
 maps:∀(i:Nat) (bU:List D),bs[i]? = some (.cg bU)→az (S.loc i)∧∃(es:Array MapEntry) (clock:Nat),w.heap[S.loc i]? = some (.map es clock)∧gG es clock bU∧(∀off,¬S (S.loc i) off) ∧
  ∀(j:Nat) (e:MapEntry) (kv:D),es[j]? = some e→(D.kept bU)[j]? = some kv→∃dk dv,kv=.a_ [dk,dv]∧bA w S e.key dk∧bA w S e.val dv
 inj:∀(i j:Nat) (x y:D),bs[i]? = some x→bs[j]? = some y→x.live=true→y.live=true→S.loc i=S.loc j→i=j
 s7:∀(i:Nat) (z:D),bs[i]? = some z→z.isIt=true→az (S.loc i)∧zI S i w.heap[S.loc i]? z∧∀off,¬S (S.loc i) off
theorem cI.iE {w:World}{S:Sets}{az:Nat→Prop}{bs:List D}(h:cI w S az bs){i:Nat}{x:D}(hi:bs[i]? = some x)(hx:x.live=true):az (S.loc i):=by
 cases x <;> simp[D.live] at hx
 ·exact(h.cells i _ _ _ hi).1
 ·exact(h.maps i _ hi).1
 ·exact(h.s7 i _ hi rfl).1
 ·exact(h.s7 i _ hi rfl).1
 ·exact(h.s7 i _ hi rfl).1
 ·exact(h.s7 i _ hi rfl).1
theorem cI.set {w w':World} {S:Sets} {az:Nat→Prop} {bs:List D} {i:Nat} {z z':D} (hst:cI w S az bs) (hK:bM S w w') (hz:bs[i]? = some z) (T7:z.live=true)
  (k8:∀(j:Nat) (x:D),bs[j]? = some x→x.live=true→S.loc j≠S.loc i→w'.heap[S.loc j]? = w.heap[S.loc j]?)
  (h1:∀(e:TypeId) (sz:Nat) (cs:List D),z'=.blk e sz cs→∃vs:Array Value,nI w' (S.loc i) vs e∧vs.size=S.cap i*sz∧cs.length≤vs.size∧(∀(j:Nat) (d:D),cs[j]? = some d→d.one=true)∧∀(j:Nat) (v:Value) (d:D),vs[j]? = some v→cs[j]? = some d→bA w' S v d)
  (h2:∀bU:List D,z'=.cg bU→∃(es:Array MapEntry) (clock:Nat),w'.heap[S.loc i]? = some (.map es clock)∧gG es clock bU∧∀(j:Nat) (e:MapEntry) (kv:D),es[j]? = some e→(D.kept bU)[j]? = some kv→∃dk dv,kv=.a_ [dk,dv]∧bA w' S e.key dk∧bA w' S e.val dv)
  (h3:z'.isIt=true→zI S i w'.heap[S.loc i]? z'):cI w' S az (bs.set i z'):=by
 have hf:=hst.iE hz T7;have jP:∀off,¬S (S.loc i) off:=fun off=>hst.v_ _ off hf;have hc:∀{j:Nat} {x:D},(bs.set i z')[j]? = some x→x.live=true→(j=i∧x=z')∨(bs[j]? = some x∧w'.heap[S.loc j]? = w.heap[S.loc j]?):=by
  intro j x hj hx;rw[A0N] at hj;split at hj
  ·rename_i AR;subst AR;rw[A0z (A0c.1 hz).1] at hj;cases hj;exact .inl ⟨rfl,rfl⟩
  ·rename_i AR;exact .inr ⟨hj,k8 j x hj hx fun e=>AR (hst.inj j i _ _ hj hz hx T7 e).symm⟩
 refine⟨by rw[hst.n];simp,fun j e sz cs hj=>?_,hst.v_,fun j bU hj=>?_,fun j k x y hj hk hx hy hl=>?_,fun j z1 hj HV=>?_⟩
 ·rcases hc hj rfl with⟨rfl,e1⟩ | ⟨EE,hh⟩
  ·obtain⟨vs,g1,g2,g3,g4,g5⟩:=h1 e sz cs e1.symm;exact⟨hf,vs,g1,g2,g3,g4,g5,jP⟩
  ·obtain⟨g0,vs,g1,g2,g3,g4,g5,g6⟩:=hst.cells j _ _ _ EE;exact⟨g0,vs,g1.to hh,g2,g3,g4,fun k v d hv hd=>(g5 k v d hv hd).keep hK (Sets.le_refl _),g6⟩
 ·rcases hc hj rfl with⟨rfl,e1⟩ | ⟨EE,hh⟩
  ·obtain⟨es,clock,g1,g2,g3⟩:=h2 bU e1.symm;exact⟨hf,es,clock,g1,g2,jP,g3⟩
  ·obtain⟨g0,es,clock,g1,g2,g3,g4⟩:=hst.maps j _ EE;refine⟨g0,es,clock,hh.trans g1,g2,g3,fun k e kv he iM=>?_⟩;obtain⟨dk,dv,k1,k2,k3⟩:=g4 k e kv he iM;exact⟨dk,dv,k1,k2.keep hK (Sets.le_refl _),k3.keep hK (Sets.le_refl _)⟩
 ·have old:∀{k:Nat} {x:D},(bs.set i z')[k]? = some x→x.live=true→∃y,bs[k]? = some y∧y.live=true:=fun h hl=>by
   rcases hc h hl with⟨rfl,_⟩ | ⟨h',_⟩
   ·exact⟨z,hz,T7⟩
   ·exact⟨_,h',hl⟩
  obtain⟨_,a1,a2⟩:=old hj hx;obtain⟨_,b1,b2⟩:=old hk hy;exact hst.inj j k _ _ a1 b1 a2 b2 hl
 ·rcases hc hj (D.gb HV) with⟨rfl,e1⟩ | ⟨EE,hh⟩
  ·subst e1;exact⟨hf,h3 HV,jP⟩
  ·rw[hh];exact hst.s7 j _ EE HV
def gP (w:World)(ρ:dD)(env:List D)(o:Nat):aY→Prop
 | .box cs=>∃(vs:Array Value) (ty:TypeId),w.heap[ρ.blk o]? = some (.cells vs ty (0,0))∧vs.size=cs.length∧(∀(i:Nat) (v:Value),vs[i]? = some v→v.oneCell'=true) ∧
   (∀(i:Nat) (v:Value) (c:SV),vs[i]? = some v→cs[i]? = some c→cS w ρ env v c)∧∀off,¬ρ.S (ρ.blk o) off
 | .row x size=>∃(vs:Array Value) (ty:TypeId) (es:List D),w.heap[ρ.blk o]? = some (.cells vs ty (0,0))∧x.eval env=some (.bk es)∧(∀(i:Nat) (e:D),es[i]? = some e→e.cells.length=size) ∧
   vs.size=es.length*size∧(∀(i:Nat) (e:D) (j:Nat) (d:D),es[i]? = some e→e.cells[j]? = some d→d.one=true∧∃v,vs[i*size+j]? = some v∧bA w ρ.S v d) ∧
   ρ.val o=.slice (some ⟨ρ.blk o,0,none⟩) es.length es.length∧es.length≤maxLen∧∀off,¬ρ.S (ρ.blk o) off
 | .store _ x=>∃bs,x.eval env=some (.st bs)∧cI w ρ.S ρ.az bs∧o=br
 | .tok e size=>∃(n:Nat) (xs:List Value),w.ownsRow 0 e size (ρ.val o) n xs∧∀b,(ρ.val o).ownBlock=some b→∀off,n*size≤off→¬ρ.S b off
structure jN where
 may:Nat→Prop
 S:Sets
 az:Nat→Prop
 EJ:List Deferred:=[]
structure aF (w0:World)(X:jN)(w:World)(a:Act)(σ:ah)(env:List D)(ρ:dD):Prop where
 size:a.tmps.size=σ.tmps.length
 tmps:∀t,cS w ρ env (a.tmps.getD t undef) (σ.tmp t)
 cT:∀o x,σ.obj o=some x→gP w ρ env o x
 inj:∀o o' x x' b,σ.obj o=some x→σ.obj o'=some x'→bN ρ o x b→bN ρ o' x' b→o=o'
 own:∀o x b,σ.obj o=some x→bN ρ o x b→((x.ro=true∧X.az b)∨w0.heap.size≤b∨X.may b)∧b<w.heap.size
 cells:∀b o,ρ.S b o→b<w.heap.size
 os:w.os=w0.os
 tape:TL w w0
 output:w.output=w0.output
 grown:w0.heap.size≤w.heap.size
 old:∀b,b<w0.heap.size→¬X.may b→w.heap[b]? = w0.heap[b]?
 sub:X.S≤ρ.S
 new:∀b o,ρ.S b o→X.S b o∨w0.heap.size≤b∨X.may b
 yo:a.defers=X.EJ
 hold:∀l rec,X.S.hold l=some rec→w0.heap[l]? = some (.loop rec)∧¬X.may l∧¬X.az l
theorem gP.env {w:World}{ρ:dD}{env env':List D}{o:Nat}{x:aY}(h:gP w ρ env o x)(he:env <+: env'):gP w ρ env' o x:=by
 cases x with
 | box cs=>
  obtain⟨vs,ty,h1,h2,h3,h4,h5⟩:=h;exact⟨vs,ty,h1,h2,h3,fun i v c hv hc=>(h4 i v c hv hc).env he,h5⟩
 | row x size=>
  obtain⟨vs,ty,es,h1,h2,h3⟩:=h;exact⟨vs,ty,es,h1,E.ck he _ h2,h3⟩
 | tok e size=>exact h
 | store ro x=>
  obtain⟨bs,h1,h2⟩:=h;exact⟨bs,E.ck he _ h1,h2⟩
theorem aF.env {w0:World}{X:jN}{w:World}{a:Act}{σ:ah}{env env':List D}{ρ:dD}(h:aF w0 X w a σ env ρ)(he:env <+: env'):aF w0 X w a σ env' ρ:=
 ⟨h.size,fun t=>(h.tmps t).env he,fun o x hx=>(h.cT o x hx).env he,h.inj,h.own,h.cells,h.os,h.tape,h.output,h.grown,h.old,h.sub,h.new,h.yo,h.hold⟩
theorem ah.wz {σ:ah}{d:Nat}{sv:SV}(hd:d<σ.tmps.length)(t:Nat):(σ.put (some d) sv).tmp t=if t=d then sv else σ.tmp t:=by
 simp only[ah.ff,ah.gD,A0k,A0N]
 by_cases h:d=t
 ·subst h;simp[hd]
 ·simp[h,B0O h]
theorem ah.Bc (σ:ah)(dst:Option Tmp)(sv:SV)(o:Nat):(σ.put dst sv).obj o=σ.obj o:=by cases dst <;> rfl
theorem ah.eC {σ:ah}{o:Nat}{x:Option aY}(ho:o=br∨o<σ.mem.length)(o':Nat):(σ.setObj o x).obj o'=if o'=o then x else σ.obj o':=by
 simp only[ah.eU,ah.ey]
 by_cases hh:o=br
 ·subst hh;simp only[B0d];split <;> rfl
 ·have ho:=ho.resolve_left hh;simp only[hh,B0n,A0k,A0N]
  by_cases h:o=o'
  ·subst h;simp[ho,hh]
  ·simp[h,B0O h]
theorem ah.lP {σ:ah}{o:Nat}{x:Option aY}(ho:o<σ.mem.length)(o':Nat):(σ.setObj o x).obj o'=if o'=o then x else σ.obj o':=ah.eC (.inr ho) o'
theorem ah.dM (σ:ah){o o':Nat}(x:Option aY)(h:o'≠o):(σ.setObj o x).obj o'=σ.obj o':=by
 simp only[ah.eU,ah.ey]
 by_cases hh:o=br
 ·subst hh;simp[h]
 ·simp only[hh,B0n,A0k,A0N];simp[B0O h]
theorem ah.AO {σ:ah}{o o':Nat}{x:Option aY}{y:aY}(h:(σ.setObj o x).obj o'=some y):(o'=o∧x=some y)∨(o'≠o∧σ.obj o'=some y):=by
 by_cases e:o'=o
 ·subst e;refine .inl ⟨rfl,?_⟩;simp only[ah.eU,ah.ey] at h
  by_cases hh:o'=br
  ·simpa[hh] using h
  ·simp only[hh,B0n,A0k,A0N] at h;simp only[B0d] at h;split at h
   ·simpa using h
   ·simp at h
 ·exact .inr ⟨e,by rwa [ah.dM σ x e] at h⟩
theorem ah.fz (σ:ah)(o:Nat)(x:Option aY)(t:Nat):(σ.setObj o x).tmp t=σ.tmp t:=by simp only[ah.eU];split <;> rfl
theorem ah.aP (σ:ah)(o:Nat)(x:Option aY):(σ.setObj o x).tmps=σ.tmps:=by simp only[ah.eU];split <;> rfl
theorem ah.fE (σ:ah)(o:Nat)(x:Option aY):(σ.setObj o x).mem.length=σ.mem.length:=by simp only[ah.eU];split <;> simp
theorem Act.xN (a:Act)(d:Nat)(v:Value)(hd:d<a.tmps.size)(t:Nat):(a.put (some d) v).tmps.getD t undef=if t=d then v else a.tmps.getD t undef:=by
 simp only[Act.put,A0s,B0D]
 by_cases h:d=t
 ·subst h;simp[hd]
 ·simp[h,B0O h]
theorem aF.put {w0:World} {X:jN} {w:World} {a:Act} {σ:ah} {env:List D} {ρ:dD} (h:aF w0 X w a σ env ρ) {dst:Option Tmp} {v:Value} {sv:SV} (hd:∀d,dst=some d→d<σ.tmps.length)
  (hv:cS w ρ env v sv):aF w0 X w (a.put dst v) (σ.put dst sv) env ρ:=by
 cases dst with
 | none=>exact h
 | some d=>
  have hd:=hd d rfl;refine⟨by simp[Act.put,ah.ff,h.size],fun t=>?_,h.cT,h.inj,h.own,h.cells,h.os,h.tape,h.output,h.grown,h.old,h.sub,h.new,h.yo,h.hold⟩;rw[ah.wz hd,Act.xN _ _ _ (by rw[h.size];exact hd)];split
  ·exact hv
  ·exact h.tmps t
end
end
section
noncomputable section
theorem g_ (w:World)(o:Obj)(b:Nat)(hb:b<w.heap.size):(w.alloc o).heap[b]? = w.heap[b]?:=by simp only[World.alloc];rw[Array.getElem?_push,A0B (by omega)]
theorem yU {w w':World}{base:Nat}{e:TypeId}{size:Nat}{v:Value}{n:Nat}{xs:List Value}(h:w.ownsRow base e size v n xs)(hb:∀g,v.ownBlock=some g→w'.heap[g]? = w.heap[g]?):w'.ownsRow base e size v n xs:=by
 refine⟨h.1,?_⟩;rcases h.2 with h2 | ⟨g,cap,cur,hv,hg,hh,r⟩
 ·exact .inl h2
 ·refine .inr ⟨g,cap,cur,hv,hg,?_,r⟩;rw[hb g (by rw[hv];rfl)];exact hh
theorem gP.z_ {w w':World} {ρ ρ':dD} {ex:Nat→Prop} {env:List D} {o:Nat} {x:aY} (h:gP w ρ env o x) (hk:bM ρ.S w w') (hm:ρ.Le ρ' ex) (hst:o=br→ρ'.S.n=ρ.S.n∧ρ'.az=ρ.az) (ho:¬ex o) (ha:∀o',ex o'→x.aM o'=true)
  (hb:∀b,bN ρ o x b→w'.heap[b]? = w.heap[b]?) (hS:∀b off,bN ρ o x b→ρ'.S b off→ρ.S b off):gP w' ρ' env o x:=by
 have h1:=hm.blk o ho;have h2:=hm.val o ho;cases x with
 | box cs=>
  obtain⟨vs,ty,hh,hl,cV,hr,hn⟩:=h;refine⟨vs,ty,by rw[h1,hb _ rfl];exact hh,hl,cV,fun i v c hv hc=>(hr i v c hv hc).z_ hk hm fun o' C7=>SV.eR (by simpa[aY.aM] using ha o' C7) hc,fun off hs=>?_⟩;rw[h1] at hs;exact hn off (hS _ off rfl hs)
 | row x size=>
  obtain⟨vs,ty,es,hh,hx,hz,hl,hr,hv,hm1,hn⟩:=h;refine⟨vs,ty,es,by rw[h1,hb _ rfl];exact hh,hx,hz,hl,fun i e j d he hd=>?_,by rw[h1,h2];exact hv,hm1,fun off hs=>?_⟩
  ·obtain⟨cV,v,hv,bO⟩:=hr i e j d he hd;exact⟨cV,v,hv,bO.keep hk hm.S⟩
  ·rw[h1] at hs;exact hn off (hS _ off rfl hs)
 | tok e size=>
  obtain⟨n,xs,eB,hn⟩:=h;refine⟨n,xs,?_,?_⟩
  ·rw[h2];exact yU eB fun g hg=>hb g hg
  ·intro b hbv off r_ hs;rw[h2] at hbv;exact hn b hbv off r_ (hS b off hbv hs)
 | store ro x=>
  obtain⟨bs,hx,Qu,he⟩:=h;obtain⟨HW,hsf⟩:=hst he;have hst:=Qu;refine⟨bs,hx,⟨HW.trans hst.n,fun i e sz cs hi=>?_,fun b off hf hs=>by rw[hsf] at hf;exact hst.v_ b off hf (hS b off hf hs),fun i bU hi=>?_,fun i j x y hi hj hx hy hl=>?_,fun i z hi hz=>?_⟩,he⟩
  ·obtain⟨hf,vs,hh,bV,hl,cV,hr,hn⟩:=hst.cells i e sz cs hi;have hlt:i<ρ.S.n:=by rw[hst.n];exact(A0c.1 hi).1
   rw[hm.S.loc i hlt,hm.S.cap i hlt,hsf];refine⟨hf,vs,hh.to (hb _ hf),bV,hl,cV,fun j v d hv hd=>(hr j v d hv hd).keep hk hm.S,fun off hs=>hn off (hS _ off hf hs)⟩
  ·obtain⟨hf,es,clock,hh,bV,hn,hr⟩:=hst.maps i bU hi;have hlt:i<ρ.S.n:=by rw[hst.n];exact(A0c.1 hi).1
   rw[hm.S.loc i hlt,hsf];refine⟨hf,es,clock,by rw[hb _ hf];exact hh,bV,fun off hs=>hn off (hS _ off hf hs),fun j e kv he iM=>?_⟩;obtain⟨dk,dv,h1,h2,h3⟩:=hr j e kv he iM;exact⟨dk,dv,h1,h2.keep hk hm.S,h3.keep hk hm.S⟩
  ·have h1:i<ρ.S.n:=by rw[hst.n];exact(A0c.1 hi).1
   have h2:j<ρ.S.n:=by rw[hst.n];exact(A0c.1 hj).1
   rw[hm.S.loc i h1,hm.S.loc j h2] at hl;exact hst.inj i j x y hi hj hx hy hl
  ·obtain⟨hf,hh,hn⟩:=hst.s7 i z hi hz;have hlt:i<ρ.S.n:=by rw[hst.n];exact(A0c.1 hi).1
   rw[hm.S.loc i hlt,hsf];exact⟨hf,by rw[hb _ hf];exact hh.to (by rw[HW];exact A0m _) hm.S.loc (hm.S.mz i hlt) hlt,fun off hs=>hn off (hS _ off hf hs)⟩
theorem gP.keep {w w':World} {ρ ρ':dD} {ex:Nat→Prop} {env:List D} {o:Nat} {x:aY} (h:gP w ρ env o x) (hk:bM ρ.S w w') (hm:ρ.tO ρ' ex) (ho:¬ex o) (ha:∀o',ex o'→x.aM o'=true)
  (hb:∀b,bN ρ o x b→w'.heap[b]? = w.heap[b]?) (hS:∀b off,bN ρ o x b→ρ'.S b off→ρ.S b off):gP w' ρ' env o x:=
 h.z_ hk hm.toLe (fun e=>⟨hm.n (e ▸ ho),hm.az (e ▸ ho)⟩) ho ha hb hS
theorem Fe {ρ ρ':dD}{ex:Nat→Prop}(hm:ρ.Le ρ' ex){o:Nat}(hst:o=br→ρ'.az=ρ.az)(ho:¬ex o){w:World}{env:List D}{x:aY}(h:gP w ρ env o x):bN ρ' o x=bN ρ o x:=by
 cases x with
 | store ro x=>
  obtain⟨_,_,_,he⟩:=h
  funext b
  simp only[bN,hst he]
 | _=>funext b;simp[bN,hm.blk o ho,hm.val o ho]
theorem eZ {ρ ρ':dD}{ex:Nat→Prop}(hm:ρ.tO ρ' ex){o:Nat}(ho:¬ex o){w:World}{env:List D}{x:aY}(h:gP w ρ env o x):bN ρ' o x=bN ρ o x:=
 Fe hm.toLe (fun e=>hm.az (e ▸ ho)) ho h
theorem aF.move {w0:World} {X:jN} {w w':World} {a:Act} {σ:ah} {env:List D} {ρ ρ':dD} (h:aF w0 X w a σ env ρ) (hk:bM ρ.S w w') (hm:ρ.tO ρ' fun _=>False)
  (hb:∀o x b,σ.obj o=some x→bN ρ o x b→w'.heap[b]? = w.heap[b]?) (hS:∀o x b off,σ.obj o=some x→bN ρ o x b→ρ'.S b off→ρ.S b off)
  (hc:∀b o,ρ'.S b o→b<w'.heap.size) (nZ:w'.os=w.os) (ht:TL w' w) (fZ:w'.output=w.output) (bV:w.heap.size≤w'.heap.size)
  (hold:∀b,b<w0.heap.size→¬X.may b→w'.heap[b]? = w.heap[b]?) (kP:∀b o,ρ'.S b o→ρ.S b o∨w0.heap.size≤b):aF w0 X w' a σ env ρ':=by
 refine⟨h.size,fun t=>(h.tmps t).keep hk hm fun _ hf=>hf.elim,fun o x hx=>(h.cT o x hx).keep hk hm id (fun _ hf=>hf.elim) (fun b=>hb o x b hx) (fun b off=>hS o x b off hx),?_,?_,hc,
  nZ.trans h.os,ht.trans h.tape,fZ.trans h.output,A0J h.grown bV,fun b h1 h2=>(hold b h1 h2).trans (h.old b h1 h2),Sets.le_trans h.sub hm.S,fun b o hs=>(kP b o hs).elim (h.new b o) fun e=>.inr (.inl e),h.yo,h.hold⟩
 ·intro o o' x x' b h1 h2 h3 h4;rw[eZ hm (fun hf=>hf) (h.cT _ _ h1)] at h3;rw[eZ hm (fun hf=>hf) (h.cT _ _ h2)] at h4;exact h.inj o o' x x' b h1 h2 h3 h4
 ·intro o x b h1 h2;rw[eZ hm (fun hf=>hf) (h.cT _ _ h1)] at h2;obtain⟨h3,h4⟩:=h.own o x b h1 h2;exact⟨h3,A0v h4 bV⟩
theorem aF.drew {w0:World}{X:jN}{w:World}{a:Act}{σ:ah}{env:List D}{ρ:dD}(h:aF w0 X w a σ env ρ):aF w0 X w.drew a σ env ρ:=
 h.move (bM.refl _ _) (dD.tO.refl _ _) (fun _ _ _ _ _=>rfl) (fun _ _ _ _ _ _ hs=>hs) h.cells rfl ⟨rfl,E0K _⟩ rfl (A0m _) (fun _ _ _=>rfl) fun _ _ hs=>.inl hs
def Sets.or (S:Sets)(p:Nat→Nat→Prop):Sets:={ S with mem:=fun b o=>S b o∨p b o }
theorem Sets.pe (S:Sets)(p:Nat→Nat→Prop):S≤S.or p:=⟨fun _ _ h=>.inl h,A0m _,fun _ _=>rfl,fun _ _=>rfl,rfl,fun _ _=>rfl⟩
def dD.ER (ρ:dD)(b0:Nat):dD:={ ρ with S:=ρ.S.or fun b _=>b=b0 }
theorem dD.BB (ρ:dD)(b0:Nat)(ex:Nat→Prop):ρ.tO (ρ.ER b0) ex:=⟨⟨fun _ _=>rfl,fun _ _=>rfl,ρ.S.pe _⟩,fun _=>rfl,fun _=>rfl⟩
theorem bM.alloc {S:Sets}{w:World}(hS:∀b o,S b o→b<w.heap.size)(o:Obj):bM S w (w.alloc o):=fun b i hs=>World.cell?_alloc_lt w o ⟨b,i,none⟩ (hS b i hs)
theorem aF.Wf {w0:World}{X:jN}{w:World}{a:Act}{σ:ah}{env:List D}{ρ:dD}(h:aF w0 X w a σ env ρ)(o:Obj):aF w0 X (w.alloc o) a σ env (ρ.ER w.heap.size):=by
 refine h.move (bM.alloc h.cells o) (ρ.BB _ _) ?_ ?_ ?_ rfl ⟨rfl,A0m _⟩ rfl (by simp) ?_ fun b i hs=>hs.elim .inl fun e=>.inr (by have:=h.grown;omega)
 ·intro o' x b h1 h2;exact g_ w o b (h.own o' x b h1 h2).2
 ·intro o' x b off h1 h2 h3;rcases h3 with h3 | h3
  ·exact h3
  ·have:=(h.own o' x b h1 h2).2;omega
 ·intro b i hs;rcases hs with hs | hs
  ·have:=h.cells b i hs;simp;omega
  ·simp;omega
 ·intro b h1 _;have:=h.grown;exact g_ w o b (by omega)
def dD.fe (ρ:dD)(o b:Nat)(v:Value):dD:={ ρ with blk:=fun x=>if x=o then b else ρ.blk x,val:=fun x=>if x=o then v else ρ.val x }
theorem dD.wm (ρ:dD)(o b:Nat)(v:Value):ρ.tO (ρ.fe o b v) (·=o):=
 ⟨⟨fun x hx=>by simp[dD.fe,hx],fun x hx=>by simp[dD.fe,hx],Sets.le_refl _⟩,fun _=>rfl,fun _=>rfl⟩
def ah.aM (σ:ah)(o:Nat):Prop:=(∀t,(σ.tmp t).aM o=true)∧∀o' x,σ.obj o'=some x→x.aM o=true
theorem aF.fe {w0:World} {X:jN} {w w':World} {a:Act} {σ:ah} {env:List D} {ρ:dD} (h:aF w0 X w a σ env ρ) {o:Nat} (ho:o<σ.mem.length) (iI:σ.obj o=none) (mU:σ.aM o) {v:Value} {x:aY}
  (hk:bM ρ.S w w') (hb:∀b,b<w.heap.size→w'.heap[b]? = w.heap[b]?) (nZ:w'.os=w.os) (ht:TL w' w) (fZ:w'.output=w.output) (bV:w.heap.size<w'.heap.size)
  (eE:gP w' (ρ.fe o w.heap.size v) env o x) (hblk:∀b,bN (ρ.fe o w.heap.size v) o x b→b=w.heap.size):aF w0 X w' a (σ.setObj o (some x)) env (ρ.fe o w.heap.size v):=by
 have hm:=ρ.wm o w.heap.size v;have bQ:∀o' y,σ.obj o'=some y→o'≠o:=fun o' y hy e=>by rw[e,iI] at hy;cases hy
 refine⟨by rw[ah.aP];exact h.size,fun t=>?_,?_,?_,?_,fun b i hs=>A0v (h.cells b i hs) (C0K bV),nZ.trans h.os,ht.trans h.tape,fZ.trans h.output,A0J h.grown (C0K bV),?_,h.sub,h.new,h.yo,h.hold⟩
 ·rw[ah.fz];exact(h.tmps t).keep hk hm fun o' e=>by subst e;exact mU.1 t
 ·intro o' y hy;rw[ah.lP ho] at hy
  by_cases e:o'=o
  ·subst e;simp at hy;subst hy;exact eE
  ·simp[e] at hy;refine(h.cT o' y hy).keep hk hm e (fun o'' e'=>by subst e';exact mU.2 o' y hy) (fun b fI=>hb b (h.own o' y b hy fI).2) fun _ _ _ hs=>hs
 ·intro o1 o2 y1 y2 b h1 h2 h3 h4;rw[ah.lP ho] at h1 h2
  by_cases e1:o1=o <;> by_cases e2:o2=o
  ·rw[e1,e2]
  ·subst e1;simp at h1;subst h1;simp[e2] at h2;rw[eZ hm e2 (h.cT _ _ h2)] at h4;have:=hblk b h3;have:=(h.own o2 y2 b h2 h4).2;omega
  ·subst e2;simp at h2;subst h2;simp[e1] at h1;rw[eZ hm e1 (h.cT _ _ h1)] at h3;have:=hblk b h4;have:=(h.own o1 y1 b h1 h3).2;omega
  ·simp[e1] at h1;simp[e2] at h2;rw[eZ hm e1 (h.cT _ _ h1)] at h3;rw[eZ hm e2 (h.cT _ _ h2)] at h4;exact h.inj o1 o2 y1 y2 b h1 h2 h3 h4
 ·intro o' y b hy fI;rw[ah.lP ho] at hy
  by_cases e:o'=o
  ·subst e;simp at hy;subst hy;have:=hblk b fI;have:=h.grown;exact⟨.inr (.inl (by omega)),by omega⟩
  ·simp[e] at hy;rw[eZ hm e (h.cT _ _ hy)] at fI;obtain⟨h1,h2⟩:=h.own o' y b hy fI;exact⟨h1,by omega⟩
 ·intro b h1 h2;exact(hb b (by have:=h.grown;omega)).trans (h.old b h1 h2)
theorem aF.setBlock {w0:World} {X:jN} {w w':World} {a:Act} {σ:ah} {env:List D} {ρ:dD} (h:aF w0 X w a σ env ρ) {o:Nat} (ho:o=br∨o<σ.mem.length) {x x':aY} (hx:σ.obj o=some x) {b0:Nat} (Bq:bN ρ o x b0) (fQ:x.ro=false) (sk:∀b,bN ρ o x' b→bN ρ o x b)
  (iI:∀off,¬ρ.S b0 off) (hb:∀b,b≠b0→w'.heap[b]? = w.heap[b]?) (nZ:w'.os=w.os) (ht:TL w' w) (fZ:w'.output=w.output) (bV:w'.heap.size=w.heap.size)
  (eE:bM ρ.S w w'→gP w' ρ env o x'):aF w0 X w' a (σ.setObj o (some x')) env ρ:=by
 have hk:bM ρ.S w w':=fun b i hs=>A0V (a:=⟨b,i,none⟩) (hb b fun e=>by subst e;exact iI i hs);have hm:=dD.tO.refl ρ fun _=>False;have eB:∀b,bN ρ o x b→(w0.heap.size≤b∨X.may b)∧b<w.heap.size:=fun b hb=>by have:=h.own o x b hx hb;rw[fQ] at this;exact⟨this.1.resolve_left (by simp),this.2⟩
 refine⟨by rw[ah.aP];exact h.size,fun t=>by rw[ah.fz];exact(h.tmps t).keep hk hm fun _ hf=>hf.elim,?_,?_,?_,fun b i hs=>by rw[bV];exact h.cells b i hs,nZ.trans h.os,ht.trans h.tape,fZ.trans h.output,by rw[bV];exact h.grown,?_,h.sub,h.new,h.yo,h.hold⟩
 ·intro o' y hy;rw[ah.eC ho] at hy
  by_cases e:o'=o
  ·subst e;simp at hy;subst hy;exact eE hk
  ·simp[e] at hy;refine(h.cT o' y hy).keep hk hm id (fun _ hf=>hf.elim) (fun b fI=>hb b fun e'=>e ?_) fun _ _ _ hs=>hs;subst e';exact h.inj o' o y x b hy hx fI Bq
 ·intro o1 o2 y1 y2 b h1 h2 h3 h4;rw[ah.eC ho] at h1 h2
  by_cases e1:o1=o <;> by_cases e2:o2=o
  ·rw[e1,e2]
  ·subst e1;simp at h1;subst h1;simp[e2] at h2;exact h.inj o1 o2 x y2 b hx h2 (sk b h3) h4
  ·subst e2;simp at h2;subst h2;simp[e1] at h1;exact h.inj o1 o2 y1 x b h1 hx h3 (sk b h4)
  ·simp[e1] at h1;simp[e2] at h2;exact h.inj o1 o2 y1 y2 b h1 h2 h3 h4
 ·intro o' y b hy fI;rw[ah.eC ho] at hy;rw[bV]
  by_cases e:o'=o
  ·subst e;simp at hy;subst hy;exact⟨.inr (eB b (sk b fI)).1,(eB b (sk b fI)).2⟩
  ·simp[e] at hy;exact h.own o' y b hy fI
 ·intro b h1 h2;have bQ:b≠b0:=fun e=>by
   subst e;rcases(eB b Bq).1 with h3 | h3
   ·omega
   ·exact h2 h3
  exact(hb b bQ).trans (h.old b h1 h2)
theorem aF.gJ {w0:World} {X:jN} {w w':World} {a:Act} {σ:ah} {env:List D} {ρ:dD} (h:aF w0 X w a σ env ρ) {cf:cF} {x x':E} (hx:σ.obj br=some (.store cf x)) (fQ:cf.ro=false) {S':Sets} {bJ:Nat→Prop} {bs':List D} (he:x'.eval env=some (.st bs')) (hst:cI w' S' bJ bs')
  (hk:bM ρ.S w w') (hS:ρ.S≤S') (nZ:w'.os=w.os) (ht:TL w' w) (fZ:w'.output=w.output) (bV:w.heap.size≤w'.heap.size) (hb:∀b,b<w.heap.size→¬ρ.az b→w'.heap[b]? = w.heap[b]?)
  (hf:∀b,bJ b→(ρ.az b∨w.heap.size≤b)∧b<w'.heap.size) (H8:∀b o,S' b o→ρ.S b o∨ρ.az b∨w.heap.size≤b) (J6:∀b o,S' b o→b<w'.heap.size) :
  aF w0 X w' a (σ.setObj br (some (.store cf x'))) env { ρ with S:=S',az:=bJ }:=by
 have hle:ρ.Le { ρ with S:=S',az:=bJ } (fun _=>False):=⟨fun _ _=>rfl,fun _ _=>rfl,hS⟩;have UO:∀b,ρ.az b→(w0.heap.size≤b∨X.may b)∧b<w.heap.size:=fun b hb=>by have:=h.own br _ b hx hb;simp only[aY.ro,fQ] at this;exact⟨this.1.resolve_left (by simp),this.2⟩
 have FD:∀o y b,o≠br→σ.obj o=some y→bN ρ o y b→¬ρ.az b:=fun o y b bQ hy hb hf=>bQ (h.inj o br y _ b hy hx hb hf);have hblk:∀o y,o≠br→σ.obj o=some y→bN { ρ with S:=S',az:=bJ } o y=bN ρ o y:=fun o y bQ hy=>Fe hle (fun e=>absurd e bQ) (fun hf=>hf) (h.cT o y hy);refine⟨by rw[ah.aP];exact h.size,fun t=>by rw[ah.fz];exact(h.tmps t).z_ hk hle fun _ hf=>hf.elim,fun o y hy=>?_,fun o1 o2 y1 y2 b h1 h2 h3 h4=>?_,fun o y b hy fI=>?_,J6,nZ.trans h.os,ht.trans h.tape,fZ.trans h.output,A0J h.grown bV,fun b h1 h2=>?_,Sets.le_trans h.sub hS,fun b o hs=>?_,h.yo,h.hold⟩
 ·rw[ah.eC (.inl rfl)] at hy
  by_cases e:o=br
  ·subst e;simp at hy;subst hy;exact⟨bs',he,hst,rfl⟩
  ·simp[e] at hy;refine(h.cT o y hy).z_ hk hle (fun e'=>absurd e' e) (fun hf=>hf) (fun _ hf=>hf.elim) (fun b fI=>hb b (h.own o y b hy fI).2 (FD o y b e hy fI)) fun b off fI hs=>?_;rcases H8 b off hs with h1 | h1 | h1
   ·exact h1
   ·exact absurd h1 (FD o y b e hy fI)
   ·have:=(h.own o y b hy fI).2;omega
 ·rw[ah.eC (.inl rfl)] at h1 h2;have aaE:∀{o:Nat} {y:aY} {b:Nat},o≠br→σ.obj o=some y→bN { ρ with S:=S',az:=bJ } o y b→bJ b→False:=by
   intro o y b bQ hy fI pU;rw[hblk o y bQ hy] at fI;rcases(hf b pU).1 with h5 | h5
   ·exact FD o y b bQ hy fI h5
   ·have:=(h.own o y b hy fI).2;omega
  by_cases e1:o1=br <;> by_cases e2:o2=br
  ·rw[e1,e2]
  ·subst e1;simp at h1;subst h1;simp[e2] at h2;exact(aaE e2 h2 h4 h3).elim
  ·subst e2;simp at h2;subst h2;simp[e1] at h1;exact(aaE e1 h1 h3 h4).elim
  ·simp[e1] at h1;simp[e2] at h2;rw[hblk o1 y1 e1 h1] at h3;rw[hblk o2 y2 e2 h2] at h4;exact h.inj o1 o2 y1 y2 b h1 h2 h3 h4
 ·rw[ah.eC (.inl rfl)] at hy
  by_cases e:o=br
  ·subst e;simp at hy;subst hy;obtain⟨h1,h2⟩:=hf b fI;refine⟨.inr ?_,h2⟩;rcases h1 with h1 | h1
   ·exact(UO b h1).1
   ·exact .inl (A0J h.grown h1)
  ·simp[e] at hy;rw[hblk o y e hy] at fI;obtain⟨h1,h2⟩:=h.own o y b hy fI;exact⟨h1,by omega⟩
 ·refine(hb b (by have:=h.grown;omega) fun hf=>?_).trans (h.old b h1 h2);rcases(UO b hf).1 with h3 | h3
  ·omega
  ·exact h2 h3
 ·rcases H8 b o hs with h1 | h1 | h1
  ·exact h.new b o h1
  ·rcases(UO b h1).1 with h3 | h3
   ·exact .inr (.inl h3)
   ·exact .inr (.inr h3)
  ·exact .inr (.inl (A0J h.grown h1))
end
end
section
noncomputable section
inductive Out where
 | ret (d:D)
 | ee (d:D)
def Out.ends (w':World)(S':Sets)(v:Value):Out→Ending→Prop
 | .ret d,e=>e=.returned v∧bA w' S' v d
 | .ee d,e=>e=.panicked [{ v,recovered:=false }]∧bA w' S' v d
def pZ (w:World)(S:Sets)(az:Nat→Prop):Prop:=∀l rec,S.hold l=some rec→w.heap[l]? = some (.loop rec)∧¬az l
theorem aF.lY {w0 w:World}{X:jN}{a:Act}{σ:ah}{env:List D}{ρ:dD}(h:aF w0 X w a σ env ρ){cf:cF}{x:E}(cO:σ.obj br=some (.store cf x)):pZ w ρ.S ρ.az:=by
 intro l rec hl;have iH:X.S.hold l=some rec:=by rw[←h.sub.hold];exact hl
 obtain⟨h1,h2,h3⟩:=h.hold l rec iH;have hlt:l<w0.heap.size:=(A0l.1 h1).1;refine⟨(h.old l hlt h2).trans h1,fun hf=>?_⟩;rcases(h.own br _ l cO hf).1 with g | g | g
 ·exact h3 g.2
 ·omega
 ·exact h2 g
def eS (P:Program)(f:FuncId)(h:D)(ds:List D)(o:Out):Prop:=
 ∀(w:World) (S:Sets) (az:Nat→Prop) (bs:List D) (vs:Array Value),h=.st bs→cI w S az bs→pZ w S az→(∀b,az b→b<w.heap.size)→(∀b o,S b o→b<w.heap.size)→vs.size=ds.length→(∀(i:Nat) (v:Value) (x:D),vs[i]? = some v→ds[i]? = some x→bA w S v x) →
  Calls P f vs w fun e w'=>∃(v:Value) (S':Sets),o.ends w' S' v e∧Blw w.heap.size w w'∧S≤S'∧S'.n=S.n∧(∀b o,S' b o→S b o∨w.heap.size≤b)∧∀b o,S' b o→b<w'.heap.size
abbrev aQ (P:Program)(f:FuncId)(h:D)(ds:List D)(d:D):Prop:=eS P f h ds (.ret d)
theorem eS.Cj {P:Program}{f:FuncId}{ds:List D}{o:Out}(h:eS P f (.st []) ds o)(kQ:eD ds=true)(bs:List D):eS P f (.st bs) ds o:=by
 intro w S az oD vs hb hst dN fG hS iL bO
 let S0:Sets:={ mem:=S.mem,loc:=fun _=>0,n:=0,cap:=fun _=>0 }
 have zg:cI w S0 (fun _=>False) []:=⟨rfl,fun i e sz cs hi=>by simp at hi,fun b off hf=>hf.elim,fun i bU hi=>by simp at hi,fun i j x y hi=>by simp at hi,fun i z hi=>by simp at hi⟩;refine(h w S0 (fun _=>False) [] vs rfl zg (fun l rec hl=>by cases hl) (fun _ hf=>hf.elim) hS iL fun i v x hv hx=>(bO i v x hv hx).free (fun _ _ h=>h) (f_ kQ hx)).mono ?_
 rintro e w' ⟨v,S',eb,hb,hle,HW,kP,hlt⟩
 refine⟨v,{ S with mem:=S'.mem },?_,hb,⟨hle.mem,A0m _,fun _ _=>rfl,fun _ _=>rfl,rfl,fun _ _=>rfl⟩,rfl,kP,hlt⟩;have hh:∀l,S'.hold l=none:=fun l=>by rw[hle.hold]
 cases o with
 | ret d=>exact⟨eb.1,eb.2.Cj (fun _ _ h=>h) HW hh⟩
 | ee d=>exact⟨eb.1,eb.2.Cj (fun _ _ h=>h) HW hh⟩
def bu (P:Program)(f:FuncId)(h:D)(ds:List D)(o:Out)(h':D):Prop:=
 ∀(w:World) (S:Sets) (az:Nat→Prop) (bs:List D) (vs:Array Value),h=.st bs→cI w S az bs→pZ w S az→(∀b,az b→b<w.heap.size)→(∀b o,S b o→b<w.heap.size)→vs.size=ds.length→(∀(i:Nat) (v:Value) (x:D),vs[i]? = some v→ds[i]? = some x→bA w S v x) →
  Calls P f vs w fun e w'=>∃(v:Value) (S':Sets) (bJ:Nat→Prop) (bs':List D),o.ends w' S' v e∧h'=.st bs'∧cI w' S' bJ bs'∧bM S w w'∧S≤S'∧w'.os=w.os∧TL w' w∧w'.output=w.output∧w.heap.size≤w'.heap.size ∧
   (∀b,b<w.heap.size→¬az b→w'.heap[b]? = w.heap[b]?)∧(∀b,bJ b→(az b∨w.heap.size≤b)∧b<w'.heap.size)∧(∀b o,S' b o→S b o∨az b∨w.heap.size≤b)∧∀b o,S' b o→b<w'.heap.size
abbrev aZ (P:Program)(f:FuncId)(h:D)(ds:List D)(d h':D):Prop:=bu P f h ds (.ret d) h'
def Wh (P:Program)(y:D)(st:D)(ds:List D)(b:Bool)(eT:D):Prop:=
 ∀(w:World) (S:Sets) (az:Nat→Prop) (bs:List D) (vs:Array Value) (yv:Value),st=.st bs→cI w S az bs→pZ w S az→(∀b,az b→b<w.heap.size)→(∀b o,S b o→b<w.heap.size)→bA w S yv y→vs.size=ds.length→(∀(i:Nat) (v:Value) (x:D),vs[i]? = some v→ds[i]? = some x→bA w S v x) →
  ∃(l:Nat) (f:FuncId) (tmps:Array Value) (assign body:Code),yv=.func (.yield l) #[] #[]∧(Instr.yield l vs).run P w=.ok (.round l f tmps assign body) w∧RoundIn Fence.wide 0 P l f tmps assign body w fun e w'=>∃(S':Sets) (bJ:Nat→Prop) (bs':List D),e=.returned (.bool b)∧eT=.st bs'∧cI w' S' bJ bs'∧bM S w w'∧S≤S'∧w'.os=w.os∧TL w' w∧w'.output=w.output∧w.heap.size≤w'.heap.size ∧
   (∀b,b<w.heap.size→¬az b→w'.heap[b]? = w.heap[b]?)∧(∀b,bJ b→(az b∨w.heap.size≤b)∧b<w'.heap.size)∧(∀b o,S' b o→S b o∨az b∨w.heap.size≤b)∧∀b o,S' b o→b<w'.heap.size
abbrev r7 (P:Program)(y:D)(st:D)(ds:List D)(eT:D):Prop:=Wh P y st ds true eT
inductive Bind where
 | ev (x:E)
 | call (act:List (E×Bool)) (f:FuncId) (h:E) (args:List E) (rs:List Bool)
 | bw (act:List (E×Bool)) (f:FuncId) (h:E) (args:List E) (rs:List Bool)
 | ei (act:List (E×Bool)) (x h:E) (args:List E) (rs:List Bool)
 | dG (act:List (E×Bool)) (x h:E) (args:List E) (rs:List Bool)
 deriving Inhabited
def rM:List Bool→List D→Bool
 | [],[]=>true
 | b :: r,d :: s=>(!b||d.one)&&rM r s
 | _,_=>false
def D.fits (rs:List Bool)(d:D):Bool:=
 match rs with
 | [b]=>!b||d.one
 | rs=>match d with
  | .a_ ds=>rM rs ds
  | _=>false
abbrev E.gL (x:E):E:=.m4 .eD x .nil .nil .nil
def aA (env:List D):List E→Option (List D)
 | []=>some []
 | x :: r=>(x.eval env).bind fun d=>(aA env r).map (d :: ·)
def bL (P:Program)(f:FuncId):Bool:=
 match P.funcs[f]? with
 | some fn => !(fn.name == "runtime.NumGoroutine") && fn.body.isSome
 | none=>false
def yg (P:Program)(xd st:D)(ds:List D)(d h':D):Prop:=
 match xd with
 | .fn f us cs=>bL P f=true∧aZ P f st (us++ds++cs) d h'
 | .yl l rec sl cr=>d=.bool true∧r7 P (.yl l rec sl cr) st ds h'
 | .K9 i rec sl cr=>∃b,d=.bool b∧Wh P (.K9 i rec sl cr) st ds b h'
 | _=>False
def bD (P:Program)(env:List D)(ix:Nat):Option Bind→Prop
 | none=>True
 | some (.ev x)=>∃d,x.eval env=some d∧env[ix]? = some d
 | some (.call act f h args rs)=>∃d,env[ix]? = some d∧(bq env act→∃st ds,h.eval env=some st∧aA env args=some ds∧aQ P f st ds d∧d.fits rs=true)
 | some (.bw act f h args rs)=>∃st d h',h.eval env=some st∧env[ix]? = some (.a_ [d,h'])∧(bq env act→∃ds,aA env args=some ds∧aZ P f st ds d h'∧d.fits rs=true)∧(¬bq env act→h'=st)
 | some (.ei act x h args rs)=>∃d,env[ix]? = some d∧(bq env act→∃f us cs st ds,x.eval env=some (.fn f us cs)∧bL P f=true∧h.eval env=some st∧aA env args=some ds∧aQ P f st (us++ds++cs) d∧d.fits rs=true)
 | some (.dG act x h args rs)=>∃st d h',h.eval env=some st∧env[ix]? = some (.a_ [d,h'])∧(bq env act→∃xd ds,x.eval env=some xd∧aA env args=some ds∧yg P xd st ds d h'∧d.fits rs=true)∧(¬bq env act→h'=st)
structure cK where
 val:SV:=.cz
 cm:Option (Nat×aY):=none
 bind:Option Bind:=none
 deriving Inhabited
def jH (P:Program)(t:TypeId):Option Bool:=(P.underlying t).map fun | .struct _=>true | .array _ _=>true | _=>false
def r8 (P:Program)(t:TypeId):Option Nat:=(P.info? t).map (·.size)
theorem yN {P:Program}{t:TypeId}{b:Bool}(h:jH P t=some b)(w:World):(isAgg t).run P w=.ok b w:=by
 unfold jH at h;cases hu:P.underlying t with
 | none=>simp[hu] at h
 | some d=>
  simp only[hu,A0y,A0x] at h;unfold isAgg;rw[A0n,A0G hu w];subst h;cases d <;> rfl
theorem run_sizeOf {P:Program}{t:TypeId}{n:Nat}(h:r8 P t=some n)(w:World):(sizeOf t).run P w=.ok n w:=by
 unfold r8 at h;cases hi:P.info? t with
 | none=>simp[hi] at h
 | some i=>simp[hi] at h;simp[sizeOf,typeInfo,hi,h]
theorem ig {P:Program}{t:TypeId}{z:Value}(h:(P.info? t).bind (·.zero)=some z)(w:World):(zeroValue t).run P w=.ok z w:=by
 cases hi:P.info? t with
 | none=>simp[hi] at h
 | some i=>simp[hi] at h;simp[zeroValue,typeInfo,hi,h]
theorem gO (b off j:Nat):(⟨b,off,none⟩:Addr).add j=⟨b,off+j,none⟩:=by unfold Addr.add;split <;> simp_all
def D.jy (nz:Bool):List Value→Option (List D)
 | []=>some []
 | y :: r=>if plain y then(D.jy nz r).map (D.v y :: ·) else match y with
  | .slice none 0 0=>(D.jy nz r).map ((if nz then .bS else .bk []) :: ·)
  | _=>none
def D.uI (y:Value):Option D:=
 match y with
 | .agg cs=>(D.jy false cs.toList).map .agg
 | y=>match D.jy false [y] with
  | some [d]=>some d
  | _=>none
theorem D.kz {w:World}{S:Sets}{nz:Bool}:∀{l:List Value} {ds:List D},D.jy nz l=some ds→l.length=ds.length∧∀(i:Nat) (v:Value) (d:D),l[i]? = some v→ds[i]? = some d→bA w S v d∧d.one=true
 | [],ds,h=>by simp[D.jy] at h;subst h;simp
 | y :: r,ds,h=>by
  simp only[D.jy] at h;split at h
  ·rename_i hp;obtain⟨kL,h1,rfl⟩:=A0a.1 h;obtain⟨hl,hr⟩:=D.kz h1;refine⟨by simp[hl],fun i u d hu hd=>?_⟩;cases i with
   | zero=>simp at hu hd;subst hu hd;exact⟨.v hp,rfl⟩
   | succ i=>exact hr i u d (by simpa using hu) (by simpa using hd)
  ·split at h
   ·obtain⟨kL,h1,rfl⟩:=A0a.1 h;obtain⟨hl,hr⟩:=D.kz h1;refine⟨by simp[hl],fun i u d hu hd=>?_⟩;cases i with
    | zero=>
     simp only[A0L,A0x] at hu hd;subst hu hd;cases nz
     ·exact⟨.nil,rfl⟩
     ·exact⟨.bS,rfl⟩
    | succ i=>exact hr i u d (by simpa using hu) (by simpa using hd)
   ·cases h
theorem D.jT {w:World}{S:Sets}{v:Value}{d:D}(h:D.uI v=some d):bA w S v d:=by
 have one:∀{v:Value} {d:D},(match D.jy false [v] with | some [d]=>some d | _=>none)=some d→bA w S v d:=by
  intro v d h;split at h
  ·rename_i d' fo;cases h;exact((D.kz (w:=w) (S:=S) fo).2 0 v d rfl rfl).1
  ·cases h
 cases v with
 | agg cs=>
  simp only[D.uI] at h;obtain⟨ds,h1,rfl⟩:=A0a.1 h;obtain⟨hl,hr⟩:=D.kz (w:=w) (S:=S) h1;refine .agg (by simpa using hl) (fun i d hd=>?_) (fun i v d hv hd=>(hr i v d (by simpa using hv) hd).1);have hi:i<cs.toList.length:=by rw[hl];exact(A0c.1 hd).1
  exact(hr i _ d (A0e hi) hd).2
 | _=>exact one h
def nC (v:Value):SV:=match D.uI v with | some d=>.e (.const d) d.one | none=>.cz
theorem DG {w:World}{ρ:dD}{env:List D}(v:Value):cS w ρ env v (nC v):=by
 unfold nC;split
 ·rename_i d hd;exact .e rfl (D.jT hd) id
 ·exact .cz
mutual
def SV.toE:SV→Option E
 | .e x _=>some x
 | .own x _=>some x
 | .func (.func f) []=>some (.const (.fn f [] []))
 | .agg cs=>SV.toEs cs
 | .a_ cs=>SV.toTs cs
 | _=>none
def SV.toEs:List SV→Option E
 | []=>some .nil
 | s :: r=>match s.toE,SV.toEs r with | some x,some y=>some (.cons x y) | _,_=>none
def SV.toTs:List SV→Option E
 | []=>some .ai
 | s :: r=>match s.toE,SV.toTs r with | some x,some y=>some (.aa x y) | _,_=>none
end
theorem bA.L2 {w:World}{S:Sets}{v:Value}{d:D}(h:bA w S v d)(hv:v.oneCell'=true):d.one=true:=by cases h <;> first | rfl | simp[Value.oneCell'] at hv
theorem D.cells_one {d:D}(h:d.one=true):d.cells=[d]:=by cases d <;> first | rfl | simp[D.one] at h
theorem D.KD {d:D}(h:d.one=true)(cs:List D):D.cons d (.agg cs)=some (.agg (d :: cs)):=by cases d <;> first | rfl | simp[D.one] at h
mutual
theorem SV.toE_rd {w:World}{ρ:dD}{env:List D}:∀{sv:SV} {x:E} {v:Value},sv.toE=some x→cS w ρ env v sv→∃d,x.eval env=some d∧bA w ρ.S v d
 | .e x s,y,v,h,hr=>by simp[SV.toE] at h;subst h;cases hr with | e hx hd _=>exact⟨_,hx,hd⟩
 | .own x k,y,v,h,hr=>by simp[SV.toE] at h;subst h;cases hr with | own hx hd _=>exact⟨_,hx,hd⟩
 | .agg cs,y,v,h,hr=>by
  simp only[SV.toE] at h;cases hr with
  | @agg vs _ hl ho hh=>
   obtain⟨ds,he,fR,hd⟩:=SV.toEs_rd (vs:=vs.toList) h (by simpa using hl) (fun i v hv=>ho i v (by simpa using hv)) (fun i v c hv hc=>hh i v c (by simpa using hv) hc);refine⟨_,he,.agg (by simpa using fR) (fun i d fo=>?_) fun i v d hv fo=>(hd i v d (by simpa using hv) fo).1⟩;have hi:i<vs.toList.length:=by rw[fR];exact(A0c.1 fo).1
   exact(hd i _ d (A0e hi) fo).2
 | .a_ cs,y,v,h,hr=>by
  simp only[SV.toE] at h;cases hr with
  | @a_ vs _ hl hh=>
   obtain⟨ds,he,fR,hd⟩:=SV.toTs_rd (vs:=vs.toList) h (by simpa using hl) (fun i v c hv hc=>hh i v c (by simpa using hv) hc);exact⟨_,he,.a_ (by simpa using fR) fun i v d hv fo=>hd i v d (by simpa using hv) fo⟩
 | .cz,_,_,h,_ | .addr _ _,_,_,h,_ | .ax _ _ _ _,_,_,h,_ | .ij _ _,_,_,h,_ | .mE _,_,_,h,_ | .cond _ _,_,_,h,_=>by simp[SV.toE] at h
 | .func fn cs,y,v,h,hr=>by
  obtain⟨vs,rfl,hl,_⟩:=hr.oh;cases fn with
  | func f=>
   cases cs with
   | nil=>
    simp only[SV.toE] at h;cases h;have:vs=#[]:=by simpa using hl
    subst this;exact⟨_,rfl,.fn rfl rfl (by simp) (by simp)⟩
   | cons _ _=>simp[SV.toE] at h
  | _=>simp[SV.toE] at h
theorem SV.toEs_rd {w:World}{ρ:dD}{env:List D}:∀{cs:List SV} {x:E} {vs:List Value},SV.toEs cs=some x→vs.length=cs.length→(∀(i:Nat) (v:Value),vs[i]? = some v→v.oneCell'=true) →
  (∀(i:Nat) (v:Value) (c:SV),vs[i]? = some v→cs[i]? = some c→cS w ρ env v c)→∃ds,x.eval env=some (.agg ds)∧vs.length=ds.length∧∀(i:Nat) (v:Value) (d:D),vs[i]? = some v→ds[i]? = some d→bA w ρ.S v d∧d.one=true
 | [],x,vs,h,hl,_,_=>by simp[SV.toEs] at h;subst h;have:vs=[]:=A0D (by simpa using hl);subst this;exact⟨[],rfl,rfl,by simp⟩
 | s :: r,x,vs,h,hl,ho,hh=>by
  match vs,hl with
  | v :: vs,hl=>
   simp only[SV.toEs] at h;split at h
   ·rename_i y z hy hz;cases h;obtain⟨d,hd,bO⟩:=SV.toE_rd hy (hh 0 v s rfl rfl);obtain⟨ds,he,fR,kQ⟩:=SV.toEs_rd (vs:=vs) hz (by simpa using hl) (fun i v hv=>ho (i+1) v (by simpa using hv)) (fun i v c hv hc=>hh (i+1) v c (by simpa using hv) (by simpa using hc));have h1:=bO.L2 (ho 0 v rfl);refine⟨d :: ds,by simp[E.eval,hd,he,D.KD h1],by simp[fR],fun i v' d' hv fo=>?_⟩;cases i with
    | zero=>simp at hv fo;subst hv fo;exact⟨bO,h1⟩
    | succ i=>exact kQ i v' d' (by simpa using hv) (by simpa using fo)
   ·cases h
theorem SV.toTs_rd {w:World}{ρ:dD}{env:List D}:∀{cs:List SV} {x:E} {vs:List Value},SV.toTs cs=some x→vs.length=cs.length →
  (∀(i:Nat) (v:Value) (c:SV),vs[i]? = some v→cs[i]? = some c→cS w ρ env v c)→∃ds,x.eval env=some (.a_ ds)∧vs.length=ds.length∧∀(i:Nat) (v:Value) (d:D),vs[i]? = some v→ds[i]? = some d→bA w ρ.S v d
 | [],x,vs,h,hl,_=>by simp[SV.toTs] at h;subst h;have:vs=[]:=A0D (by simpa using hl);subst this;exact⟨[],rfl,rfl,by simp⟩
 | s :: r,x,vs,h,hl,hh=>by
  match vs,hl with
  | v :: vs,hl=>
   simp only[SV.toTs] at h;split at h
   ·rename_i y z hy hz;cases h;obtain⟨d,hd,bO⟩:=SV.toE_rd hy (hh 0 v s rfl rfl);obtain⟨ds,he,fR,kQ⟩:=SV.toTs_rd (vs:=vs) hz (by simpa using hl) (fun i v c hv hc=>hh (i+1) v c (by simpa using hv) (by simpa using hc));refine⟨d :: ds,by simp[E.eval,hd,he,D.aa],by simp[fR],fun i v' d' hv fo=>?_⟩;cases i with
    | zero=>simp at hv fo;subst hv fo;exact bO
    | succ i=>exact kQ i v' d' (by simpa using hv) (by simpa using fo)
   ·cases h
end
def SV.split (n ix:Nat):SV→Option (List SV×Option Bind)
 | .agg cs=>if cs.length=n then some (cs,none) else none
 | .e (.const (.agg ds)) _=>if ds.length=n∧ds.all (·.one)=true then some (ds.map fun d=>.e (.const d) true,none) else none
 | .e x _=>some ((List.range n).map fun i=>.e (.cell i (.sym ix)) true,some (.ev (.bE n x)))
 | _=>none
theorem SV.Sz {P:Program}{w:World}{ρ:dD}{env:List D}{n ix:Nat}{sv:SV}{cs:List SV}{b:Option Bind}{v:Value}(h:sv.split n ix=some (cs,b))(hb:bD P env ix b)(hr:cS w ρ env v sv) :
  ∃vs:Array Value,v=.agg vs∧vs.size=n∧cs.length=n∧(∀(i:Nat) (v:Value),vs[i]? = some v→v.oneCell'=true)∧∀(i:Nat) (v:Value) (c:SV),vs[i]? = some v→cs[i]? = some c→cS w ρ env v c:=by
 unfold SV.split at h;split at h
 ·rename_i vR;split at h
  ·rename_i hl;cases h;cases hr with
   | agg iH ho hh=>exact⟨_,rfl,by omega,hl,ho,hh⟩
  ·cases h
 ·rename_i ds s;split at h
  ·rename_i hl;cases h;cases hr with
   | e hx hd _=>
    simp[E.eval] at hx;subst hx;cases hd with
    | agg iH ho hh=>
     refine⟨_,rfl,by omega,by simp[hl.1],fun i v hv=>?_,fun i v c hv hc=>?_⟩
     ·have hi:i<ds.length:=by rw[←iH];exact(A0l.1 hv).1
      exact(hh i v _ hv (A0e hi)).one (ho i _ (A0e hi))
     ·simp only[A0w,A0a] at hc;obtain⟨d,hd,rfl⟩:=hc;exact .e rfl (hh i v d hv hd) fun _=>ho i d hd
  ·cases h
 ·rename_i x s bQ;cases h;obtain⟨d,hd,he⟩:=hb;cases hr with
  | e hx bO _=>
   simp only[E.eval,hx,A0d] at hd;cases bO with
   | @agg vs ds iH ho hh=>
    simp only[D.bE] at hd;split at hd
    ·rename_i hl;cases hd;refine⟨_,rfl,by omega,by simp,fun i v hv=>?_,fun i v c hv hc=>?_⟩
     ·have hi:i<ds.length:=by rw[←iH];exact(A0l.1 hv).1
      exact(hh i v _ hv (A0e hi)).one (ho i _ (A0e hi))
     ·have hi:i<ds.length:=by rw[←iH];exact(A0l.1 hv).1
      have rY:c=.e (.cell i (.sym ix)) true:=by simp only[A0w,A0a] at hc;obtain⟨j,hj,rfl⟩:=hc;have:=A0c.1 hj;simp at this;rw[←this.2]
      subst rY;exact .e (d:=ds[i]) (by simp[E.eval,he,D.cell,D.cells,hi]) (hh i v _ hv (A0e hi)) fun _=>ho i _ (A0e hi)
    ·cases hd
   | _=>simp[D.bE] at hd
 ·cases h
end
end
section
noncomputable section
def gp (P:Program):Nat→List Field→Option (List Nat)
 | _,[]=>some []
 | i, f :: fs => if f.offset = i ∧ f.name ≠ "_" then (match P.underlying f.type with
  | some (.int _)=>(gp P (i+1) fs).map (0 :: ·)
  | some .bool=>(gp P (i+1) fs).map (1 :: ·)
  | some .string=>(gp P (i+1) fs).map (2 :: ·)
  | _=>none) else none
def rL (P:Program)(t:TypeId):Option (List Nat):=
 match P.underlying t with
 | some (.struct fs)=>if P.stoodInHeld t=false∧P.eqGuardType P.depth t=false then gp P 0 fs.toList else none
 | _=>none
def kindOf (P:Program)(t:TypeId):Option Kd:=
 match P.underlying t with
 | some (.int _)=>some .int
 | some .bool=>some .bool
 | some .string=>some .str
 | some (.pointer _)=>some .ptr
 | some (.map _ _)=>some .mp
 | some (.struct _)=>(rL P t).map .agg
 | _=>none
def SV.cellsOf (agg:Bool)(n ix:Nat)(obj:Nat→Option aY)(sv:SV):Option (List SV×Option Bind):=
 if agg then sv.split n ix else match sv with
  | .e x true=>some ([.e x true],none)
  | .e x false=>some ([.e x true],some (.ev (.aV x)))
  | .mE o=>match obj o with
   | some (.row _ _)=>some ([.mE o],none)
   | _=>none
  | .addr o off=>some ([.addr o off],none)
  | .ax o i sz off=>some ([.ax o i sz off],none)
  | .ij x off=>some ([.ij x off],none)
  | .own x k=>some ([.own x k],none)
  | .func fn cs=>some ([.func fn cs],none)
  | _=>none
def NK (P:Program)(t:TypeId):Option (List SV):=((P.info? t).bind (·.zero)).map fun z=>z.cells.toList.map nC
def hOf (obj:Nat→Option aY):E:=
 match obj br with
 | some (.store _ h)=>h
 | _=>.const (.st [])
def Fo (P:Program)(t:TypeId)(x:SV)(obj:Nat→Option aY)(ix:Nat):Option cK:=
 (jH P t).bind fun agg=>(r8 P t).bind fun n=>
 match x with
 | .addr ob off=>match obj ob with
  | some (.box cs)=>if agg then(if off+n≤cs.length then some { val:=.agg ((cs.drop off).take n) } else none) else(cs[off]?).map fun c=>{ val:=c }
  | _=>none
 | .ax ob i sz off=>match obj ob with
  | some (.row l yG)=>if sz≠yG then none else if agg then(if off=0∧n=sz then some { val:=.e (.sym ix) false,bind:=some (.ev (.bE n (.idx l i))) } else none)
   else some { val:=.e (.sym ix) true,bind:=some (.ev (.cell off (.idx l i))) }
  | _=>none
 | .ij x off=>if agg then(if off=0 then some { val:=.e (.sym ix) false,bind:=some (.ev (.bE n x)) } else some { val:=.e (.sym ix) false,bind:=some (.ev (.cells off n x)) })
   else some { val:=.e (.sym ix) true,bind:=some (.ev (.cell off x)) }
 | .e p _=>some { val:=.e (.sym ix) (!agg),bind:=some (.ev (.ld agg n (hOf obj) p)) }
 | _=>none
def yX (P:Program)(t:TypeId)(x y:SV)(obj:Nat→Option aY)(ix:Nat):Option cK:=
 (jH P t).bind fun agg=>(r8 P t).bind fun n=>
 match x with
 | .addr ob off=>match obj ob with
  | some (.box cs)=>(y.cellsOf agg n ix obj).bind fun(ys,b)=>if off+ys.length≤cs.length∧ys.length=n then some { cm:=some (ob,.box (cs.take off++ys++cs.drop (off+ys.length))),bind:=b } else none
  | _=>none
 | .ax ob i sz off=>match obj ob with
  | some (.row l yG)=>if sz≠yG then none else(match agg,y with
   | false,.e y' true=>if n=1 then some { cm:=some (ob,.row (.sym ix) yG),bind:=some (.ev (.set l i off y')) } else none
   | false,.e y' false=>if n=1 then some { cm:=some (ob,.row (.sym ix) yG),bind:=some (.ev (.set l i off (.aV y'))) } else none
   | true,y=>y.toE.map fun y'=>{ cm:=some (ob,.row (.sym ix) yG),bind:=some (.ev (.set l i off (.bE n y'))) }
   | _,_=>none)
  | _=>none
 | .e p _=>match obj br,y.toE with
  | some (.store cf h),some y'=>if cf.ro then none else some { cm:=some (br,.store cf (.sym ix)),bind:=some (.ev (.eL n h p y')) }
  | _,_=>none
 | _=>none
def vu (P:Program)(s:TypeId)(x:SV)(f:Nat):Option cK:=
 match P.underlying s with
 | some (.struct fs)=>(fs[f]?).bind fun fd=>(r8 P fd.type).bind fun n=>if n=0 then none else match x with
  | .addr ob off=>some { val:=.addr ob (off+fd.offset) }
  | .ax ob i sz off=>some { val:=.ax ob i sz (off+fd.offset) }
  | .ij x off=>some { val:=.ij x (off+fd.offset) }
  | _=>none
 | _=>none
def GY (P:Program)(s:TypeId)(x:SV)(f ix:Nat):Option cK:=
 match P.underlying s,x with
 | some (.struct fs),.e p _=>(fs[f]?).bind fun fd=>(r8 P fd.type).bind fun n=>if n=0 then none else some { val:=.e (.sym ix) true,bind:=some (.ev (.aj fd.offset p)) }
 | _,_=>none
def lS (P:Program)(t:TypeId)(x i:SV)(obj:Nat→Option aY)(ix:Nat):Option cK:=
 match P.underlying t,i.toE with
 | some (.slice e),some i'=>(r8 P e).bind fun n=>match x with
  | .mE ob=>match obj ob with
   | some (.row l sz)=>if sz=n then some { val:=.ax ob i' n 0,bind:=some (.ev (.idx l i')) } else none
   | _=>none
  | x=>x.toE.map fun l=>{ val:=.e (.sym ix) true,bind:=some (.ev (.ax n l i')) }
 | some (.array len e),some i'=>(r8 P e).bind fun n=>x.toE.map fun p=>{ val:=.e (.sym ix) true,bind:=some (.ev (.m4 (.iJ len n) p i' .nil .nil)) }
 | _,_=>none
def abr (x:SV)(ix:Nat):Option cK:=
 match x with
 | .addr o off=>some { val:=.addr o off }
 | .ax o i sz off=>some { val:=.ax o i sz off }
 | .func fn cs=>(match fn with | .method _=>none | _=>some { val:=.func fn cs })
 | .ij x off=>some { val:=.ij x off }
 | .e x _=>some { val:=.e (.sym ix) true,bind:=some (.ev (.nn x)) }
 | _=>none
def He:SV→Bool
 | .e (.const (.v (.pointer none))) _=>true
 | _=>false
def Hf:SV→Bool
 | .addr _ _ | .ax _ _ _ _ | .ij _ _=>true
 | _=>false
def aby (P:Program)(op:BinOp)(t:TypeId)(x y:SV)(ix:Nat):Option cK:=
 if kindOf P t=some .ptr∧((Hf x=true∧He y=true)∨(He x=true∧Hf y=true)) then
  (match op with
   | .eql=>some { val:=.e (.const (.v (.bool false))) true }
   | .neq=>some { val:=.e (.const (.v (.bool true))) true }
   | _=>none)
 else match kindOf P t,x.toE,y.toE with
 | some kd,some x',some y'=>some { val:=.e (.sym ix) true,bind:=some (.ev (.bin op kd x' y')) }
 | _,_,_=>none
def lun (op:UnOp)(x:SV)(ix:Nat):Option cK:=x.toE.map fun x'=>{ val:=.e (.sym ix) true,bind:=some (.ev (.un op x')) }
def TC (P:Program)(src dst:TypeId)(x:SV)(ix:Nat):Option cK:=
 match P.underlying src,P.underlying dst with
 | some _,some (.int k)=>x.toE.map fun x'=>{ val:=.e (.sym ix) true,bind:=some (.ev (.conv k x')) }
 | _,_=>none
def CJ (x:SV)(i ix:Nat):Option cK:=
 match x with
 | .a_ cs=>(cs[i]?).map fun c=>{ val:=c }
 | .e y _=>some { val:=.e (.sym ix) false,bind:=some (.ev (.av i y)) }
 | _=>none
def G6 (P:Program)(t:TypeId)(dst:Option Tmp):Option cK:=
 match dst,NK P t with
 | some d,some cs=>some { val:=.addr d 0,cm:=some (d,.box cs) }
 | _,_=>none
def Mx (P:Program)(t:TypeId)(x:SV)(dst:Option Tmp)(obj:Nat→Option aY)(ix:Nat):Option cK:=
 match dst,jH P t,r8 P t with
 | some d,some agg,some n=>(x.cellsOf agg n ix obj).map fun(cs,b)=>{ val:=.addr d 0,cm:=some (d,.box cs),bind:=b }
 | _,_,_=>none
def Qg (P:Program)(t:TypeId)(x:SV)(obj:Nat→Option aY)(ix:Nat):Option cK:=
 match P.underlying t with
 | some (.slice _)=>(match x with
  | .mE ob=>match obj ob with
   | some (.row l _)=>some { val:=.e (.sym ix) true,bind:=some (.ev (.bI l)) }
   | _=>none
  | x=>x.toE.map fun l=>{ val:=.e (.sym ix) true,bind:=some (.ev (.bI l)) })
 | some .string=>x.toE.map fun l=>{ val:=.e (.sym ix) true,bind:=some (.ev (.gy l)) }
 | _=>none
def ea (P:Program)(o:Oper)(a:Act)(w:World)(w0:World)(X:jN)(σ':ah)(env:List D):Prop:=
 ∀Q,o.uponIn Fence.wide 0 P a (fun a' w'=>∃ρ',aF w0 X w' a' σ' env ρ') Q ((execOp a.eval o).run P w)
def FW (r:Option Nat):Fence:={ Fence.wide with round:=r }
def tV (o:Oper):Bool:=match o.op with | .defer _=>false | _=>true
theorem Pj {r:Option Nat}{n:Nat}{P:Program}{f:FuncId}{args:Array Value}{w:World}{R:Ending→World→Prop}:CallsIn (FW r) n P f args w R↔Calls P f args w R:=callsIn_wide
theorem R9 {P:Program}{o:Oper}{a:Act}{r:Option Nat}{n:Nat}{K K':Act→World→Prop}{Q:Exit→Act→World→Prop}{x:Result Next}(h:o.uponIn Fence.wide 0 P a K Q x)(hK:∀a w,K a w→K' a w):o.uponIn (FW r) n P a K' Q x:=by
 cases x with
 | ok x w'=>
  cases x with
  | value v=>exact hK _ _ h
  | skip=>exact hK _ _ h
  | defer d=>exact hK _ _ h
  | enter f args=>
   refine⟨fun e=>(by cases e),Pj.2 ((callsIn_wide.1 h.2).mono fun e Wq he=>?_)⟩;cases e <;> first | exact hK _ _ he | exact he
  | row row args=>exact⟨fun e=>(by cases e),fun c cs _=>let ⟨v,Wq,g,s⟩:=h.2 c cs (room_wide _);⟨v,Wq,hK _ _ g,s⟩⟩
  | round l f tmps assign body=>
   refine⟨fun e=>(by cases e),h.2.1,fun c cs _=>?_⟩;obtain⟨e,Wq,g,s⟩:=h.2.2 c cs (room_wide _);refine⟨e,Wq,?_,s⟩;cases e <;> first | exact hK _ _ g | exact g
  | _=>exact h.elim
 | halt x w'=>
  cases x <;> exact h
theorem yy {P:Program}{o:Oper}{a:Act}{K K':Act→World→Prop}{Q:Exit→Act→World→Prop}{x:Result Next}(h:o.uponIn Fence.wide 0 P a K Q x)(hK:∀a w,K a w→K' a w):o.uponIn Fence.wide 0 P a K' Q x:=R9 (r:=none) (n:=0) h hK
theorem gV {P:Program}{o:Oper}{a:Act}{w:World}{r:Option Nat}{n:Nat}{K K':Act→World→Prop}{Q:Exit→Act→World→Prop}(hd:tV o=true)(h:o.uponIn Fence.wide 0 P a K Q ((execOp a.eval o).run P w))(hK:∀a w,K a w→K' a w):o.wpIn (FW r) n P a w K' Q:=by refine⟨fun _ _=>trivial,?_⟩;rw[Oper.semAt_plain (FW r) _ _ (fun c hc=>by rw[tV,hc] at hd;cases hd)];exact R9 h hK
theorem bW {P:Program}{o:Oper}{a:Act}{w w' w0:World}{X:jN}{σ':ah}{env:List D}{ρ':dD}{v:Value}(hr:(execOp a.eval o).run P w=.ok (.value v) w')(h:aF w0 X w' (a.put o.dst v) σ' env ρ'):ea P o a w w0 X σ' env:=by intro Q;rw[hr];exact⟨ρ',h⟩
theorem p_ {P:Program}{o:Oper}{a:Act}{w w' w0:World}{X:jN}{σ':ah}{env:List D}{ρ':dD}(hr:(execOp a.eval o).run P w=.ok .skip w')(h:aF w0 X w' (a.put o.dst undef) σ' env ρ'):ea P o a w w0 X σ' env:=by intro Q;rw[hr];exact⟨ρ',h⟩
section
variable {P:Program} {w w0:World} {X:jN} {a:Act} {σ:ah} {env:List D} {ρ:dD}
theorem eM {w:World}{g:Nat}{vs:Array Value}{ty:TypeId}{fr:Nat×Nat}(h:w.heap[g]? = some (.cells vs ty fr))(i:Nat):w.cell? ⟨g,i,none⟩=vs[i]?:=cell_of_row w g i vs ty fr h
theorem qR {t:TypeId}{n b off:Nat}{vs:List Value}(hg:jH P t=some true)(hn:r8 P t=some n)(hl:vs.length=n)(hc:∀(j:Nat) (v:Value),vs[j]? = some v→w.cell? ⟨b,off+j,none⟩=some v) :
  (loadVar t ⟨b,off,none⟩).run P w=.ok (.agg vs.toArray) w:=by
 have h:=run_loadCells_list (P:=P) w ⟨b,off,none⟩ vs fun j v hv=>by rw[gO];exact hc j v hv
 rw[hl] at h;unfold loadVar;simp[A0n,yN hg,run_sizeOf hn,h]
theorem qQ {t:TypeId}{b off:Nat}{v:Value}(hg:jH P t=some false)(hc:w.cell? ⟨b,off,none⟩=some v):(loadVar t ⟨b,off,none⟩).run P w=.ok v w:=by unfold loadVar;simp[A0n,yN hg,hc]
theorem QS {o:Oper}{t:TypeId}{x:Operand}{b off:Nat}{v:Value}(ho:o.op=.load t x)(hx:a.eval x=.pointer (some ⟨b,off,none⟩))(hr:(loadVar t ⟨b,off,none⟩).run P w=.ok v w) :
  (execOp a.eval o).run P w=.ok (.value v) w:=by
 unfold execOp;simp only[ho,hx,Instr.loadAt,Instr.sureAddr,A0n,A0r,A0h,hr]
theorem bA.jx {S:Sets}{v:Value}{cs:List D}(h:bA w S v (.ptr cs)):∃b off,v=.pointer (some ⟨b,off,none⟩)∧∀(j:Nat) (d:D),cs[j]? = some d→d.one=true∧S b (off+j)∧∃u,w.cell? ⟨b,off+j,none⟩=some u∧bA w S u d:=by
 cases h with
 | @ptr b off _ val ho hS hw hr=>exact⟨b,off,rfl,fun j d hj=>⟨ho j d hj,hS j d hj,val j,hw j d hj,hr j d hj⟩⟩
theorem VV {S:Sets}{b off:Nat}:∀{ds:List D},(∀(j:Nat) (d:D),ds[j]? = some d→d.one=true∧∃u,w.cell? ⟨b,off+j,none⟩=some u∧bA w S u d) →
  ∃vs:List Value,vs.length=ds.length∧(∀(j:Nat) (v:Value),vs[j]? = some v→w.cell? ⟨b,off+j,none⟩=some v)∧∀(j:Nat) (v:Value) (d:D),vs[j]? = some v→ds[j]? = some d→bA w S v d:=by
 intro ds
 induction ds generalizing off with
 | nil=>intro _;exact⟨[],rfl,by simp,by simp⟩
 | cons d r ih=>
  intro h;obtain⟨_,u,hu,bO⟩:=h 0 d rfl;obtain⟨vs,hl,hc,hr⟩:=ih (off:=off+1) fun j d' hj=>by have:=h (j+1) d' (by simpa using hj);rwa [show off+(j+1)=off+1+j from by omega] at this
  refine⟨u :: vs,by simp[hl],fun j v hv=>?_,fun j v d' hv hd=>?_⟩
  ·cases j with
   | zero=>simp at hv;subst hv;exact hu
   | succ j=>rw[show off+(j+1)=off+1+j from by omega];exact hc j v (by simpa using hv)
  ·cases j with
   | zero=>simp at hv hd;subst hv hd;exact bO
   | succ j=>exact hr j v d' (by simpa using hv) (by simpa using hd)
theorem jW {S:Sets} {t:TypeId} {b off n:Nat} {ds:List D} (hg:jH P t=some true) (hn:r8 P t=some n) (hl:n≤ds.length)
  (hc:∀(j:Nat) (d:D),ds[j]? = some d→d.one=true∧∃u,w.cell? ⟨b,off+j,none⟩=some u∧bA w S u d):∃v,(loadVar t ⟨b,off,none⟩).run P w=.ok v w∧bA w S v (.agg (ds.take n)):=by
 obtain⟨vs,iL,hvc,hvr⟩:=VV hc;refine⟨_,qR (vs:=vs.take n) hg hn (by simp;omega) (fun j v hv=>?_),.agg (by simp;omega) (fun i d hd=>?_) fun i v d hv hd=>?_⟩
 ·rw[A0H] at hv;split at hv
  ·exact hvc j v hv
  ·cases hv
 ·rw[A0H] at hd;split at hd
  ·exact(hc i d hd).1
  ·cases hd
 ·simp only[A0R,A0H] at hv hd;split at hv
  ·rename_i hi;rw[A0z hi] at hd;exact hvr i v d hv hd
  ·cases hv
theorem l_ {S:Sets}{t:TypeId}{b off:Nat}{d:D}(hg:jH P t=some false)(hc:∃u,w.cell? ⟨b,off,none⟩=some u∧bA w S u d):∃v,(loadVar t ⟨b,off,none⟩).run P w=.ok v w∧bA w S v d:=by obtain⟨u,hu,hr⟩:=hc;exact⟨u,qQ hg hu,hr⟩
theorem PO {ob:Nat}{l:E}{sz:Nat}(h:gP w ρ env ob (.row l sz)):∃es,l.eval env=some (.bk es)∧∀(m:Nat) (e:D),es[m]? = some e→e.cells.length=sz ∧
  ∀(j:Nat) (d:D),e.cells[j]? = some d→d.one=true∧∃u,w.cell? ⟨ρ.blk ob,m*sz+j,none⟩=some u∧bA w ρ.S u d:=by
 obtain⟨vs,ty,es,hh,p4,hz,iL,hr,_,_,_⟩:=h;refine⟨es,p4,fun m e he=>⟨hz m e he,fun j d hd=>?_⟩⟩;obtain⟨h1,v,hv,bO⟩:=hr m e j d he hd;exact⟨h1,v,by rw[eM hh];exact hv,bO⟩
theorem D.DL {d:D}{n:Nat}(h:d.cells.length=n):d.cells.take n=d.cells:=C0B (by omega)
theorem J7 (h:aF w0 X w a σ env ρ){dh:D}(he:(hOf σ.obj).eval env=some dh):∃bs,dh=.st bs∧(bs=[]∨cI w ρ.S ρ.az bs):=by
 unfold hOf at he;split at he
 ·rename_i cf x hx;obtain⟨bs,h1,h2,_⟩:=h.cT _ _ hx;rw[h1] at he;cases he;exact⟨bs,rfl,.inr h2⟩
 ·simp only[E.eval] at he;cases he;exact⟨[],rfl,.inl rfl⟩
theorem h_ {bs:List D}{i:Nat}{b:TypeId×Nat×List D}(h:D.eG (.st bs) i=some b):bs[i]? = some (.blk b.1 b.2.1 b.2.2):=by
 simp only[D.eG] at h;split at h
 ·rename_i e;cases h;exact e
 ·cases h
theorem G0 {S:Sets}{az:Nat→Prop}{t:TypeId}{n:Nat}{agg:Bool}{v:Value}{bs:List D}{dp d:D}(hg:jH P t=some agg)(hn:r8 P t=some n)(hp:bA w S v dp)(hst:bs=[]∨cI w S az bs)(hd:D.ld agg n (.st bs) dp=some d) :
  ∃b off u,v=.pointer (some ⟨b,off,none⟩)∧(loadVar t ⟨b,off,none⟩).run P w=.ok u w∧bA w S u d∧((!agg)=true→d.one=true):=by
 cases dp with
 | ptr cs=>
  obtain⟨b,f,qC,hc⟩:=hp.jx;have rY:∀(j:Nat) (d:D),cs[j]? = some d→d.one=true∧∃u,w.cell? ⟨b,f+j,none⟩=some u∧bA w S u d:=fun j d hj=>⟨(hc j d hj).1,(hc j d hj).2.2⟩;cases agg with
  | true=>
   simp only[D.ld,B0d] at hd;split at hd
   ·rename_i hle;cases hd;obtain⟨u,bt,bO⟩:=jW hg hn hle rY;exact⟨b,f,u,qC,bt,bO,by simp⟩
   ·cases hd
  | false=>
   simp only[D.ld,A0S,B0n] at hd;obtain⟨h1,h2⟩:=rY 0 d hd;obtain⟨u,bt,bO⟩:=l_ (P:=P) hg h2;exact⟨b,f,u,qC,bt,bO,fun _=>h1⟩
 | loc i off=>
  cases hp with
  | loc hi=>
  simp only[D.ld,A0b] at hd;obtain⟨cells,hb,hd⟩:=hd;have rY:∀(j:Nat) (d:D),(cells.drop off)[j]? = some d→d.one=true∧∃u,w.cell? ⟨S.loc i,off+j,none⟩=some u∧bA w S u d:=by
   unfold D.vT at hb;split at hb
   ·rename_i blk Bq;cases hb;have jc:=h_ Bq;rcases hst with rfl | hst
    ·simp at jc
    obtain⟨hf,vs,⟨_,hh,_⟩,bV,hlen,cV,hr,jP⟩:=hst.cells i _ _ _ jc;intro j d hj;rw[A0Z] at hj;have hlt:off+j<vs.size:=A0v (A0c.1 hj).1 hlen;have bO:=hr (off+j) vs[off+j] d (by simp[hlt]) hj;exact⟨cV (off+j) d hj,vs[off+j],by rw[eM hh];simp[hlt],bO⟩
   ·unfold D.aan at hb;simp only at hb;split at hb
    ·rename_i g ty vs jc;cases hb;rcases hst with rfl | hst
     ·simp at jc
     obtain⟨_,⟨_,hh,mR⟩,_⟩:=hst.s7 i _ jc rfl;intro j d hj;rw[A0Z,A0w] at hj;obtain⟨v,hv,rfl⟩:=A0a.1 hj;refine⟨rfl,v,?_,.v (A0C.1 mR v (A0I hv))⟩;rw[eM hh];simpa using hv
    ·cases hb
  cases agg with
  | true=>
   simp only[B0d] at hd;split at hd
   ·rename_i hle;cases hd;obtain⟨u,bt,bO⟩:=jW hg hn (by simp;omega) rY;exact⟨_,off,u,rfl,bt,bO,by simp⟩
   ·cases hd
  | false=>
   simp only[A0S,B0n] at hd;obtain⟨h1,h2⟩:=rY 0 d (by simpa using hd);obtain⟨u,bt,bO⟩:=l_ (P:=P) hg h2;exact⟨_,off,u,rfl,bt,bO,fun _=>h1⟩
 | _=>simp[D.ld] at hd
theorem Jp {o:Oper} {t:TypeId} {x:Operand} {sx:SV} {ix:Nat} {r:cK} (ho:o.op=.load t x) (hl:Fo P t sx σ.obj ix=some r) (hx:cS w ρ env (a.eval x) sx) (h:aF w0 X w a σ env ρ) (hd:∀d,o.dst=some d→d<σ.tmps.length)
  (hb:bD P env ix r.bind):r.cm=none∧ea P o a w w0 X (σ.put o.dst r.val) env:=by
 unfold Fo at hl;cases hg:jH P t with
 | none=>simp[hg] at hl
 | some agg=>
 cases hn:r8 P t with
 | none=>simp[hg,hn] at hl
 | some n=>
 simp only[hg,hn,A0d] at hl;have fin:∀{b off:Nat} {v:Value} {sv:SV},a.eval x=.pointer (some ⟨b,off,none⟩)→(loadVar t ⟨b,off,none⟩).run P w=.ok v w→cS w ρ env v sv→ea P o a w w0 X (σ.put o.dst sv) env:=
  fun hx hr hs=>bW (QS ho hx hr) (h.put hd hs)
 split at hl
 ·rename_i ob off;split at hl
  ·rename_i cs cO;obtain⟨vs,ty,hh,hlen,cV,hr,_⟩:=h.cT ob _ cO;have qC:=hx.j6;cases agg with
   | true=>
    simp only[B0d] at hl;split at hl
    ·rename_i hle;cases hl;refine⟨rfl,fin qC (qR (vs:=(vs.toList.drop off).take n) hg hn (by simp[hlen];omega) fun j v hv=>?_) (.agg (by simp[hlen]) (fun i v hv=>?_) fun i v c hv hc=>?_)⟩
     ·rw[eM hh];rw[A0H] at hv;split at hv
      ·simpa using hv
      ·cases hv
     ·simp only[A0R,A0H] at hv;split at hv
      ·exact cV (off+i) v (by simpa using hv)
      ·cases hv
     ·simp only[A0R,A0H] at hv hc;split at hv
      ·rename_i hi;rw[A0z hi] at hc;exact hr (off+i) v c (by simpa using hv) (by simpa using hc)
      ·cases hv
    ·cases hl
   | false=>
    simp only[A0S,B0n,A0a] at hl;obtain⟨c,hc,rfl⟩:=hl;have hi:off<vs.size:=by rw[hlen];exact(A0c.1 hc).1
    exact⟨rfl,fin qC (qQ (v:=vs[off]) hg (by rw[eM hh];simp[hi])) (hr off vs[off] c (by simp[hi]) hc)⟩
  ·cases hl
 ·rename_i ob i sz off;split at hl
  ·rename_i l yG cO;obtain⟨es,p4,kS⟩:=PO (h.cT ob _ cO);split at hl
   ·cases hl
   rename_i bV;simp only[D0k] at bV;subst bV;obtain⟨m,k,hi,qC⟩:=hx.nP;cases agg with
   | true=>
    simp only[B0d] at hl;split at hl
    ·rename_i r_;cases hl;obtain⟨rfl,rfl⟩:=r_;obtain⟨d,he,cA⟩:=hb;simp only[E.eval,p4,hi,A0d,D.idx] at he;simp at he;cases H6:es[m]? with
     | none=>simp[H6] at he
     | some e=>
     simp only[H6,A0d] at he;obtain⟨oe,hec⟩:=kS m e H6;have hle:n≤e.cells.length:=by omega
     obtain⟨v,bt,bO⟩:=jW (off:=m*n+0) hg hn hle (fun j d hd=>by simpa using hec j d hd);cases e with
     | agg cs=>
      simp only[D.bE] at he;split at he
      ·rename_i dU;cases he;refine⟨rfl,fin qC bt (.e (d:=.agg cs) (by simp[E.eval,cA]) ?_ (by simp))⟩;rw[D.DL oe] at bO;exact bO
      ·cases he
     | _=>simp[D.bE] at he
    ·cases hl
   | false=>
    simp only[A0S,B0n] at hl;cases hl;obtain⟨d,he,cA⟩:=hb;simp only[E.eval,p4,hi,A0d,D.idx] at he;simp at he;cases H6:es[m]? with
    | none=>simp[H6] at he
    | some e=>
    simp only[H6,A0d,D.cell] at he;obtain⟨oe,hec⟩:=kS m e H6;obtain⟨h1,h2⟩:=hec off d he;obtain⟨v,bt,bO⟩:=l_ (P:=P) hg h2;exact⟨rfl,fin qC bt (.e (d:=d) (by simp[E.eval,cA]) bO fun _=>h1)⟩
  ·cases hl
 ·rename_i y off;obtain⟨dy,hy,bO⟩:=hx.s9;obtain⟨b,f,qC,hc⟩:=bO.jx;have rY:∀(j:Nat) (d:D),(dy.cells.drop off)[j]? = some d→d.one=true∧∃u,w.cell? ⟨b,f+j,none⟩=some u∧bA w ρ.S u d:=fun j d hj=>⟨(hc j d hj).1,(hc j d hj).2.2⟩;cases agg with
  | true=>
   simp only[B0d] at hl;split at hl
   ·rename_i r_;cases hl;subst r_;obtain⟨d,he,cA⟩:=hb;simp only[E.eval,hy,A0d] at he;cases dy with
    | agg cs=>
     simp only[D.bE] at he;split at he
     ·rename_i dU;cases he;have hle:n≤((D.agg cs).cells.drop 0).length:=by simp[D.cells];omega
      obtain⟨v,bt,bO⟩:=jW hg hn hle rY;refine⟨rfl,fin qC bt (.e (d:=.agg cs) (by simp[E.eval,cA]) ?_ (by simp))⟩;simpa[D.cells,←dU] using bO
     ·cases he
    | _=>simp[D.bE] at he
   ·rename_i r_;cases hl;obtain⟨d,he,cA⟩:=hb;simp only[E.eval,hy,A0d] at he;cases dy with
    | agg cs=>
     simp only[D.part] at he;split at he
     ·rename_i dU;cases he;have hle:n≤((D.agg cs).cells.drop off).length:=by simp[D.cells];omega
      obtain⟨v,bt,bO⟩:=jW hg hn hle rY;exact⟨rfl,fin qC bt (.e (by simp[E.eval,cA];rfl) bO (by simp))⟩
     ·cases he
    | _=>simp[D.part] at he
  | false=>
   simp only[A0S,B0n] at hl;cases hl;obtain⟨d,he,cA⟩:=hb;simp only[E.eval,hy,A0d,D.cell] at he;obtain⟨h1,h2⟩:=rY 0 d (by simpa using he);obtain⟨v,bt,bO⟩:=l_ (P:=P) hg h2;exact⟨rfl,fin qC bt (.e (d:=d) (by simp[E.eval,cA]) bO fun _=>h1)⟩
 ·rename_i p s;cases hl;obtain⟨dp,hp,bO,_⟩:=hx.jL;obtain⟨d,he,cA⟩:=hb;simp only[E.eval,hp,A0d,A0b] at he;obtain⟨dh,hh,he⟩:=he;obtain⟨bs,rfl,hst⟩:=J7 h hh;obtain⟨b,off,u,hv,bt,Hp,h1⟩:=G0 hg hn bO hst he;exact⟨rfl,fin hv bt (.e (d:=d) (by simp[E.eval,cA]) Hp h1)⟩
 ·cases hl
end
end
end
section
noncomputable section
section
variable {P:Program} {w w0:World} {X:jN} {a:Act} {σ:ah} {env:List D} {ρ:dD}
theorem bA.CC {S:Sets}{v:Value}{es:List D}(h:bA w S v (.bk es)):∃ad n c,v=.slice ad n c∧n=es.length:=by
 cases h with
 | nil=>exact⟨_,_,_,rfl,rfl⟩
 | emp _=>exact⟨_,_,_,rfl,rfl⟩
 | bk hl=>exact⟨_,_,_,rfl,hl⟩
theorem SV.DM {agg:Bool}{n ix:Nat}{sv:SV}{ys:List SV}{b:Option Bind}{v:Value}(fC:∀o x,σ.obj o=some x→gP w ρ env o x)(h:sv.cellsOf agg n ix σ.obj=some (ys,b))(hb:bD P env ix b)(hr:cS w ρ env v sv) :
  v.cells.size=ys.length∧(∀(i:Nat) (u:Value),v.cells[i]? = some u→u.oneCell'=true)∧∀(i:Nat) (u:Value) (c:SV),v.cells[i]? = some u→ys[i]? = some c→cS w ρ env u c:=by
 unfold SV.cellsOf at h;cases agg with
 | true=>
  simp only[B0d] at h;obtain⟨vs,rfl,h1,h2,h3,h4⟩:=SV.Sz (P:=P) h hb hr;exact⟨by simp[Value.cells,h1,h2],h3,h4⟩
 | false=>
  simp only[A0S,B0n] at h;have one:∀{sv:SV},v.oneCell'=true→cS w ρ env v sv→v.cells.size=[sv].length∧(∀(i:Nat) (u:Value),v.cells[i]? = some u→u.oneCell'=true)∧∀(i:Nat) (u:Value) (c:SV),v.cells[i]? = some u→[sv][i]? = some c→cS w ρ env u c:=by
   intro sv h1 hs;have hc:v.cells=#[v]:=by cases v <;> first | rfl | simp[Value.oneCell'] at h1
   rw[hc];refine⟨rfl,fun i u hu=>?_,fun i u c hu rY=>?_⟩
   ·cases i with
    | zero=>simp at hu;subst hu;exact h1
    | succ i=>simp at hu
   ·cases i with
    | zero=>simp at hu rY;subst hu rY;exact hs
    | succ i=>simp at hu
  split at h
  ·rename_i x;cases h;obtain⟨d,hx,hd,h1⟩:=hr.jL;exact one (hd.one (h1 rfl)) hr
  ·rename_i x;cases h;obtain⟨d,hx,hd,_⟩:=hr.jL;obtain⟨d',he,_⟩:=hb;simp only[E.eval,hx,A0d,D.aV] at he;split at he
   ·rename_i h1;exact one (hd.one h1) (.e hx hd fun _=>h1)
   ·cases he
  ·rename_i o;split at h
   ·rename_i l sz ho;cases h;have hv:=hr.qM;obtain⟨vs,ty,es,_,_,_,_,_,fB,_⟩:=fC o _ ho;exact one (by rw[hv,fB];rfl) hr
   ·cases h
  ·cases h;exact one (by rw[hr.j6];rfl) hr
  ·cases h;obtain⟨_,_,_,hv⟩:=hr.nP;exact one (by rw[hv];rfl) hr
  ·cases h;obtain⟨_,_,hd⟩:=hr.s9;exact one (hd.one rfl) hr
  ·cases h;obtain⟨_,_,hd,_⟩:=hr.wO;exact one (hd.one rfl) hr
  ·cases h;obtain⟨_,hv,_⟩:=hr.oh;exact one (by rw[hv];rfl) hr
  ·cases h
theorem vL {o:Oper} {t:TypeId} {x y:Operand} {b off n:Nat} {cur:Array Value} {ty:TypeId} (ho:o.op=.store t x y) (hx:a.eval x=.pointer (some ⟨b,off,none⟩)) (hn:r8 P t=some n) (hl:(a.eval y).cells.size=n)
  (cV:∀(i:Nat) (u:Value),(a.eval y).cells[i]? = some u→u.oneCell'=true) (hh:w.heap[b]? = some (.cells cur ty (0,0))) (dQ:off+n≤cur.size) :
  (execOp a.eval o).run P w=.ok .skip (w.setRow b (cur.toList.take off++(a.eval y).cells.toList++cur.toList.drop (off+n)).toArray):=by
 have hst:=run_storeCells_at P b off ty (a.eval y).cells.toList 0 cur w hh (by simp[hl];omega) (fun v hv=>by
  obtain⟨i,hi⟩:=B0Q hv;exact cV i v (by simpa using hi))
 simp only[D0H,A0W,hl] at hst;unfold execOp;simp only[ho,hx,Instr.storeAt,Instr.sureAddr,storeVar,A0n,A0r,A0h,run_sizeOf hn];simp[hl,hst]
theorem jm {α:Type}(cs ys:List α)(off:Nat)(h:off+ys.length≤cs.length)(i:Nat):(cs.take off++ys++cs.drop (off+ys.length))[i]? = if i<off then cs[i]? else if i<off+ys.length then ys[i-off]? else cs[i]?:=by
 have h1:(cs.take off).length=off:=by simp;omega
 split
 ·rename_i hi;rw[A0A,A0g (by omega),A0H,A0z hi]
 ·rename_i hi;split
  ·rename_i hj;rw[A0A,A0o (by omega),h1,A0g (by omega)]
  ·rename_i hj;rw[A0o (by simp;omega),A0Z];congr 1;simp;omega
theorem bA.KK {S:Sets}{v:Value}{d:D}(h:bA w S v d)(ho:d.cells.all (·.one)=true):v.cells.size=d.cells.length∧(∀(i:Nat) (u:Value),v.cells[i]? = some u→u.oneCell'=true) ∧
  ∀(i:Nat) (u:Value) (c:D),v.cells[i]? = some u→d.cells[i]? = some c→bA w S u c:=by
 have one:d.one=true→d.cells=[d]∧v.cells=#[v]∧v.oneCell'=true:=fun h1=>by have h1v:=h.one h1;exact⟨D.cells_one h1,by cases v <;> first | rfl | simp[Value.oneCell'] at h1v,h1v⟩
 by_cases h1:d.one=true
 ·obtain⟨e1,e2,e3⟩:=one h1;rw[e1,e2];refine⟨rfl,fun j u hu=>?_,fun j u c hu hc=>?_⟩
  ·cases j with
   | zero=>simp at hu;subst hu;exact e3
   | succ j=>simp at hu
  ·cases j with
   | zero=>simp at hu hc;subst hu hc;exact h
   | succ j=>simp at hu
 ·cases h with
  | agg hl C7 hh=>
   refine⟨hl,fun j u hu=>?_,fun j u c hu hc=>hh j u c hu hc⟩;rename_i vs ds;have hj:j<ds.length:=by rw[←hl];exact(A0l.1 hu).1
   exact(hh j u _ hu (A0e hj)).one (C7 j _ (A0e hj))
  | a_ hl hh=>simp[D.cells,D.one] at ho
  | _=>exact absurd rfl h1
theorem W4 {cf:cF} {hx y' px:E} {x y:Operand} {n ix:Nat} {o:Oper} {t:TypeId} {sy:SV} {sp:Bool} (ho:o.op=.store t x y) (hn:r8 P t=some n) (cO:σ.obj br=some (.store cf hx)) (fQ:cf.ro=false) (hp:cS w ρ env (a.eval x) (.e px sp)) (Rz:sy.toE=some y') (hy:cS w ρ env (a.eval y) sy)
  (h:aF w0 X w a σ env ρ) (hd:∀d,o.dst=some d→d<σ.tmps.length) (hb:bD P env ix (some (.ev (.eL n hx px y')))):ea P o a w w0 X ((σ.setObj br (some (.store cf (.sym ix)))).put o.dst .cz) env:=by
 obtain⟨dp,hpe,ahE,_⟩:=hp.jL;obtain⟨dy,UQ,anv⟩:=SV.toE_rd Rz hy;obtain⟨bs,gr,hst,_⟩:=h.cT _ _ cO;obtain⟨d,he,cA⟩:=hb;simp only[E.eval,hpe,UQ,gr,A0d] at he;cases dp with
 | loc i off=>
  simp only[D.eL,A0b] at he;obtain⟨blk,hcb,he⟩:=he;split at he
  ·rename_i hc;cases he;obtain⟨hc1,O0,hc3⟩:=hc;have jc:=h_ hcb;obtain⟨hf,vs,⟨_,hh,xz⟩,bV,hlen,cV,hr,jP⟩:=hst.cells i _ _ _ jc;obtain⟨OL,hy2,hy3⟩:=anv.KK hc3;have Fw:a.eval x=.pointer (some ⟨ρ.S.loc i,off,none⟩):=by generalize a.eval x=v at ahE;cases ahE;rfl
   have bt:=vL (P:=P) (w:=w) ho Fw hn (by omega) hy2 hh (by omega);refine p_ bt ((h.setBlock (.inl rfl) cO (b0:=ρ.S.loc i) hf (by simpa[aY.ro] using fQ) (by intro _ hh;exact hh) jP (fun b fI=>D0I w _ b _ fI) rfl ⟨rfl,A0m _⟩ rfl (by simp) fun hk=>?_).put (by rw[ah.aP];exact hd) .cz);have vB:(a.eval y).cells.toList.length=dy.cells.length:=by simpa using OL
   refine⟨_,by simp only[E.eval];exact cA,hst.set hk jc rfl (fun j x _ _ bQ=>D0I w _ _ _ bQ) (fun e sz cs hz=>?_) (fun bU hz=>by cases hz) (fun hz=>by cases hz),rfl⟩;cases hz;refine⟨_,⟨_,E0p w _ _ _ _ _ hh,xz⟩,?_,?_,?_,?_⟩
   ·simp only[B0I,A0u,B0g,B0E,A0W,vB];omega
   ·simp only[B0I,A0u,B0g,B0E,A0W,vB];omega
   ·intro j d fo;rw[←hc1] at fo;rw[jm _ _ _ (by omega)] at fo;split at fo
    ·exact cV j d fo
    ·split at fo
     ·exact A0C.1 hc3 d (A0I fo)
     ·exact cV j d fo
   ·intro j v d hv fo;rw[←hc1] at hv fo;rw[jm _ _ _ (by omega)] at fo;simp only[A0R] at hv;rw[←vB] at hv fo;rw[jm _ _ _ (by simp;omega)] at hv;split at hv
    ·rename_i hj;rw[A0z hj] at fo;exact(hr j v d (by simpa using hv) fo).keep hk (Sets.le_refl _)
    ·rename_i hj;rw[A0B hj] at fo;split at hv
     ·rename_i hj2;rw[A0z hj2] at fo;exact(hy3 _ v d (by simpa using hv) fo).keep hk (Sets.le_refl _)
     ·rename_i hj2;rw[A0B hj2] at fo;exact(hr j v d (by simpa using hv) fo).keep hk (Sets.le_refl _)
  ·cases he
 | _=>simp[D.eL] at he
theorem GP {o:Oper} {t:TypeId} {x y:Operand} {sx sy:SV} {ix:Nat} {r:cK} (ho:o.op=.store t x y) (hl:yX P t sx sy σ.obj ix=some r) (hx:cS w ρ env (a.eval x) sx) (hy:cS w ρ env (a.eval y) sy) (h:aF w0 X w a σ env ρ)
  (hd:∀d,o.dst=some d→d<σ.tmps.length) (hm:∀ob y,σ.obj ob=some y→ob=br∨ob<σ.mem.length) (hb:bD P env ix r.bind):∃ob z,r.cm=some (ob,z)∧(σ.obj ob).isSome∧r.val=.cz∧ea P o a w w0 X ((σ.setObj ob (some z)).put o.dst .cz) env:=by
 unfold yX at hl;cases hg:jH P t with
 | none=>simp[hg] at hl
 | some agg=>
 cases hn:r8 P t with
 | none=>simp[hg,hn] at hl
 | some n=>
 simp only[hg,hn,A0d] at hl;split at hl
 ·rename_i ob off;split at hl
  ·rename_i cs cO;obtain⟨⟨ys,b⟩,AS,hl⟩:=A0b.1 hl;simp only at hl;split at hl
   ·rename_i dQ;obtain⟨dQ,hyn⟩:=dQ;cases hl;refine⟨ob,_,rfl,by simp[cO],rfl,?_⟩;obtain⟨h1,h2,h3⟩:=SV.DM (P:=P) h.cT AS hb hy;obtain⟨vs,ty,hh,hlen,cV,hr,hS⟩:=h.cT ob _ cO;have bt:=vL (P:=P) (w:=w) ho hx.j6 hn (by omega) h2 hh (by omega);refine p_ bt ((h.setBlock (hm ob _ cO) cO (b0:=ρ.blk ob) rfl rfl (by intro _ hh;exact hh) hS (fun b fI=>D0I w _ b _ fI) rfl ⟨rfl,A0m _⟩ rfl (by simp) fun hk=>?_).put (by rw[ah.aP];exact hd) .cz);have vB:(a.eval y).cells.toList.length=ys.length:=by simpa using h1
    refine⟨_,ty,E0p w _ _ _ _ _ hh,?_,?_,?_,hS⟩
    ·simp only[B0I,A0u,B0g,B0E,A0W,h1,hlen];omega
    ·intro i v hv;rw[←hyn,←vB] at hv;simp only[A0R] at hv;rw[jm _ _ _ (by simp[h1,hlen];omega)] at hv;split at hv
     ·exact cV i v (by simpa using hv)
     ·split at hv
      ·exact h2 _ v (by simpa using hv)
      ·exact cV i v (by simpa using hv)
    ·intro i v c hv hc;rw[←hyn,←vB] at hv;simp only[A0R] at hv;rw[jm _ _ _ (by simp[h1,hlen];omega)] at hv;rw[jm _ _ _ dQ] at hc;rw[vB] at hv;have hold:∀{v c},vs.toList[i]? = some v→cs[i]? = some c→cS (w.setRow (ρ.blk ob) (vs.toList.take off++(a.eval y).cells.toList++vs.toList.drop (off+n)).toArray) ρ env v c:=
      fun hv hc=>(hr i _ _ (by simpa using hv) hc).keep hk (dD.tO.refl ρ fun _=>False) fun _ hf=>hf.elim
     split at hv
     ·rename_i hi;rw[A0z hi] at hc;exact hold hv hc
     ·rename_i hi;rw[A0B hi] at hc;split at hv
      ·rename_i hj;rw[A0z hj] at hc;exact(h3 _ v c (by simpa using hv) hc).keep hk (dD.tO.refl ρ fun _=>False) fun _ hf=>hf.elim
      ·rename_i hj;rw[A0B hj] at hc;exact hold hv hc
   ·cases hl
  ·cases hl
 ·rename_i ob i sz off;split at hl
  ·rename_i l yG cO;split at hl
   ·cases hl
   rename_i bV;simp only[D0k] at bV;subst bV;obtain⟨m,k,hi,qC⟩:=hx.nP;have fin:∀{y':E} {dy:D},y'.eval env=some dy→bA w ρ.S (a.eval y) dy→dy.cells.length=n→(a.eval y).cells.size=n→(∀(j:Nat) (u:Value),(a.eval y).cells[j]? = some u→u.oneCell'=true) →
     (∀(j:Nat) (u:Value) (d:D),(a.eval y).cells[j]? = some u→dy.cells[j]? = some d→d.one=true∧bA w ρ.S u d)→bD P env ix (some (.ev (.set l i off y'))) →
     ea P o a w w0 X ((σ.setObj ob (some (.row (.sym ix) sz))).put o.dst .cz) env:=by
    intro y' dy UQ bO fR dU hc1 QG Aj;obtain⟨vs,ty,es,hh,p4,hz,iL,hr,fB,RD,hS⟩:=h.cT ob _ cO;obtain⟨dn,he,cA⟩:=Aj;simp only[E.eval,p4,hi,UQ,A0d,D.set] at he;simp only[Int.natCast_nonneg,B0d,C0j] at he;cases H6:es[m]? with
    | none=>simp[H6] at he
    | some e=>
    simp only[H6,A0d,A0a] at he;obtain⟨e',gZ,rfl⟩:=he;have Z9:m<es.length:=(A0c.1 H6).1;have oe:=hz m e H6;have kP:off+n≤sz∧e'.cells=e.cells.take off++dy.cells++e.cells.drop (off+n):=by
     unfold D.putAt at gZ;split at gZ
     ·rename_i cs;split at gZ
      ·rename_i hle;cases gZ;have oe:cs.length=sz:=oe;show off+n≤sz∧cs.take off++dy.cells++cs.drop (off+dy.cells.length)=cs.take off++dy.cells++cs.drop (off+n);rw[fR] at hle ⊢;exact⟨by omega,rfl⟩
      ·cases gZ
     ·rename_i hna;split at gZ
      ·rename_i Qv;cases gZ;obtain⟨rfl,h1⟩:=Qv;have FE:e.cells=[e]:=by cases e <;> first | rfl | exact absurd rfl (hna _)
       have J2:=D.cells_one h1;rw[FE] at oe;rw[J2] at fR;simp at oe fR;subst fR;rw[FE,J2];exact⟨by omega,by simp⟩
      ·cases gZ
    obtain⟨hon,tj⟩:=kP;have awN:m*sz+sz≤es.length*sz:=by have:=B0k sz (show m+1≤es.length from Z9);rwa [B0w,C0S] at this
    have bt:=vL (P:=P) (w:=w) ho qC hn dU hc1 hh (by omega);refine p_ bt ((h.setBlock (hm ob _ cO) cO (b0:=ρ.blk ob) rfl rfl (by intro _ hh;exact hh) hS (fun b fI=>D0I w _ b _ fI) rfl ⟨rfl,A0m _⟩ rfl (by simp) fun hk=>?_).put (by rw[ah.aP];exact hd) .cz);have vB:(a.eval y).cells.toList.length=n:=by simpa using dU
    have anM:∀i,(vs.toList.take (m*sz+off)++(a.eval y).cells.toList++vs.toList.drop (m*sz+off+n))[i]? = if i<m*sz+off then vs[i]? else if i<m*sz+off+n then(a.eval y).cells[i-(m*sz+off)]? else vs[i]?:=by intro i;have:=jm vs.toList (a.eval y).cells.toList (m*sz+off) (by rw[vB];simp;omega) i;rw[vB] at this;simpa using this
    have aoB:e'.cells.length=sz:=by rw[tj];simp only[A0u,B0g,B0E,fR,oe];omega
    refine⟨_,ty,es.set m e',E0p w _ _ _ _ _ hh,by simp[E.eval,cA],?_,?_,?_,by simpa using fB,by simpa using RD,hS⟩
    ·intro j e2 hj
     by_cases Z8:m=j
     ·subst Z8;simp[Z9] at hj;subst hj;exact aoB
     ·rw[A0q Z8] at hj;exact hz j e2 hj
    ·simp only[B0I,A0u,B0g,B0E,A0W,dU,iL,B0L];omega
    ·intro j e2 c d hj zj;have axj:c<sz:=by
      have Bp:=(A0c.1 zj).1
      by_cases Z8:m=j
      ·subst Z8;simp[Z9] at hj;subst hj;omega
      ·rw[A0q Z8] at hj;have:=hz j e2 hj;omega
     have hlt:∀{j},j<m→j*sz+sz≤m*sz:=fun {j} hjm=>by have:=B0k sz (show j+1≤m from hjm);rwa [B0w,C0S] at this
     have OV:∀{j},m<j→m*sz+sz≤j*sz:=fun {j} hjm=>by have:=B0k sz (show m+1≤j from hjm);rwa [B0w,C0S] at this
     simp only[A0R,anM];have OD:∀{u:Value} {d:D},bA w ρ.S u d→bA (w.setRow (ρ.blk ob) (vs.toList.take (m*sz+off)++(a.eval y).cells.toList++vs.toList.drop (m*sz+off+n)).toArray) ρ.S u d:=fun hu=>hu.keep hk (Sets.le_refl _)
     by_cases Z8:m=j
     ·subst Z8;simp[Z9] at hj;subst hj;rw[tj,show off+n=off+dy.cells.length from by omega,jm _ _ _ (by omega)] at zj;split at zj
      ·rename_i hc;obtain⟨h1,v,hv,mJ⟩:=hr m e c d H6 zj;exact⟨h1,v,by rw[A0z (by omega)];exact hv,OD mJ⟩
      ·split at zj
       ·rename_i hc O0;have hcy:c-off<(a.eval y).cells.size:=by omega
        obtain⟨h1,h2⟩:=QG (c-off) _ d (A0p hcy) zj;refine⟨h1,(a.eval y).cells[c-off],?_,OD h2⟩;rw[A0B (by omega),A0z (by omega),show m*sz+c-(m*sz+off)=c-off from by omega];exact A0p hcy
       ·rename_i hc O0;obtain⟨h1,v,hv,mJ⟩:=hr m e c d H6 zj;exact⟨h1,v,by rw[A0B (by omega),A0B (by omega)];exact hv,OD mJ⟩
     ·rw[A0q Z8] at hj;obtain⟨h1,v,hv,mJ⟩:=hr j e2 c d hj zj;refine⟨h1,v,?_,OD mJ⟩;rcases A0U j m with hjm | hjm
      ·have:=hlt hjm;rw[A0z (by omega)];exact hv
      ·have:=OV (show m<j from by omega);rw[A0B (by omega),A0B (by omega)];exact hv
   have one:∀{dy:D},dy.one=true→bA w ρ.S (a.eval y) dy→(a.eval y).cells.size=1∧(∀(j:Nat) (u:Value),(a.eval y).cells[j]? = some u→u.oneCell'=true) ∧
     ∀(j:Nat) (u:Value) (d:D),(a.eval y).cells[j]? = some u→dy.cells[j]? = some d→d.one=true∧bA w ρ.S u d:=by
    intro dy h1 bO;have h1v:=bO.one h1;have hc:(a.eval y).cells=#[a.eval y]:=by cases hv:a.eval y <;> first | rfl | (rw[hv] at h1v;simp[Value.oneCell'] at h1v)
    rw[hc,D.cells_one h1];refine⟨rfl,fun j u hu=>?_,fun j u d hu fo=>?_⟩
    ·cases j with
     | zero=>simp at hu;subst hu;exact h1v
     | succ j=>simp at hu
    ·cases j with
     | zero=>simp at hu fo;subst hu fo;exact⟨h1,bO⟩
     | succ j=>simp at hu
   split at hl
   ·rename_i y';split at hl
    ·rename_i Qy;cases hl;refine⟨ob,_,rfl,by simp[cO],rfl,?_⟩;obtain⟨dy,UQ,bO,h1⟩:=hy.jL;obtain⟨ha,fI,hc⟩:=one (h1 rfl) bO;exact fin UQ bO (by rw[D.cells_one (h1 rfl)];simp[Qy]) (by omega) fI hc hb
    ·cases hl
   ·rename_i y';split at hl
    ·rename_i Qy;cases hl;refine⟨ob,_,rfl,by simp[cO],rfl,?_⟩;obtain⟨dy,UQ,bO,_⟩:=hy.jL;have h1:dy.one=true:=by
      obtain⟨d,he,_⟩:=hb;simp only[E.eval,UQ,A0d,D.aV] at he;cases iH:l.eval env with
      | none=>simp[iH] at he
      | some dl=>
       cases qn:i.eval env with
       | none=>simp[iH,qn] at he
       | some di=>
        by_cases h1:dy.one=true
        ·exact h1
        ·simp[iH,qn,h1] at he
     obtain⟨ha,fI,hc⟩:=one h1 bO;exact fin (y':=.aV y') (by simp[E.eval,UQ,D.aV,h1]) bO (by rw[D.cells_one h1];simp[Qy]) (by omega) fI hc hb
    ·cases hl
   ·rename_i y;obtain⟨y',Rz,rfl⟩:=A0a.1 hl;refine⟨ob,_,rfl,by simp[cO],rfl,?_⟩;obtain⟨dy,UQ,bO⟩:=SV.toE_rd Rz hy;have Ak:∃cs,dy=.agg cs∧cs.length=n:=by
     obtain⟨d,he,_⟩:=hb;simp only[E.eval,UQ,A0d] at he;cases iH:l.eval env with
     | none=>simp[iH] at he
     | some dl=>
      cases qn:i.eval env with
      | none=>simp[iH,qn] at he
      | some di=>
       cases dy with
       | agg cs=>
        by_cases dU:cs.length=n
        ·exact⟨cs,rfl,dU⟩
        ·simp[iH,qn,D.bE,dU] at he
       | _=>simp[iH,qn,D.bE] at he
    obtain⟨cs,rfl,dU⟩:=Ak;obtain⟨vs,T_,iL,Lj,hh⟩:=bO.kq;refine fin (y':=.bE n y') (dy:=.agg cs) (by simp[E.eval,UQ,D.bE,dU]) bO dU (by rw[T_];simp[Value.cells];omega) (fun j u hu=>?_) (fun j u d hu fo=>?_) hb
    ·rw[T_] at hu;have hj:j<cs.length:=by rw[←iL];exact(A0l.1 hu).1
     exact(hh j u _ hu (A0e hj)).one (Lj j _ (A0e hj))
    ·rw[T_] at hu;exact⟨Lj j d fo,hh j u d hu fo⟩
   ·cases hl
  ·cases hl
 ·rename_i p s;split at hl
  ·rename_i cf fm y' cO Rz;split at hl
   ·cases hl
   ·rename_i fQ;cases hl;exact⟨br,_,rfl,by simp[cO],rfl,W4 ho hn cO (by simpa using fQ) hx Rz hy h hd hb⟩
  ·cases hl
 ·cases hl
end
end
end
section
noncomputable section
section
variable {P:Program} {w w0:World} {X:jN} {a:Act} {σ:ah} {env:List D} {ρ:dD}
theorem bl {o:Oper}{v:Value}{sv:SV}(h:aF w0 X w a σ env ρ)(hd:∀d,o.dst=some d→d<σ.tmps.length)(hr:(execOp a.eval o).run P w=.ok (.value v) w)(hs:cS w ρ env v sv):ea P o a w w0 X (σ.put o.dst sv) env:=
 bW hr (h.put hd hs)
theorem z7 {o:Oper}{x:Operand}{sx:SV}(ho:o.op=.move x∨o.op=.assign x)(hx:cS w ρ env (a.eval x) sx)(h:aF w0 X w a σ env ρ)(hd:∀d,o.dst=some d→d<σ.tmps.length):ea P o a w w0 X (σ.put o.dst sx) env:=
 bl h hd (by rcases ho with ho | ho <;> (unfold execOp;simp only[ho];rfl)) hx
theorem bA.Jl {S:Sets}{v:Value}{i off:Nat}(h:bA w S v (.loc i off)):∃ad,v=.pointer (some ad):=by cases h;exact⟨_,rfl⟩
theorem bA.v_eq {S:Sets}{v x:Value}(h:bA w S v (.v x)):v=x:=h.NM.1
theorem Fq {t:TypeId}(h:kindOf P t=some .mp):∃k e,P.underlying t=some (.map k e):=by unfold kindOf at h;split at h <;> simp at h;exact⟨_,_,by assumption⟩
theorem bA.XC {w:World}{S:Sets}{v:Value}{i:Nat}(h:bA w S v (.mp i)):∃r,v=.map (some r):=by cases h;exact⟨_,rfl⟩
theorem lU {t:TypeId}(h:kindOf P t=some .ptr):∃e,P.underlying t=some (.pointer e):=by unfold kindOf at h;split at h <;> simp at h;exact⟨_,by assumption⟩
theorem JB {t:TypeId}(h:kindOf P t=some .bool):P.underlying t=some .bool:=by
 unfold kindOf at h;split at h <;> simp at h
 assumption
theorem xS (d:Nat)(t e:TypeId)(p:Option Addr)(h:P.underlying t=some (.pointer e)):(Op.equalIn (d+1) t (.pointer p) (.pointer none)).run P w=.ok p.isNone w:=by simp only[Op.equalIn,A0n,A0G h,A0h];cases p <;> rfl
theorem xR (d:Nat)(t e:TypeId)(p:Option Addr)(h:P.underlying t=some (.pointer e)):(Op.equalIn (d+1) t (.pointer none) (.pointer p)).run P w=.ok p.isNone w:=by simp only[Op.equalIn,A0n,A0G h,A0h];rfl
theorem xU (t e:TypeId)(p:Option Addr)(h:P.underlying t=some (.pointer e)):(binOp .eql t (.pointer p) (.pointer none)).run P w=.ok (.bool p.isNone) w:=by have h1:(Op.equal t (.pointer p) (.pointer none)).run P w=.ok p.isNone w:=xS 9999 t e p h;simp only[binOp,A0n,h1,A0h,A0r]
theorem wW (t e:TypeId)(p:Option Addr)(h:P.underlying t=some (.pointer e)):(binOp .neq t (.pointer p) (.pointer none)).run P w=.ok (.bool (!p.isNone)) w:=by have h1:(Op.equal t (.pointer p) (.pointer none)).run P w=.ok p.isNone w:=xS 9999 t e p h;simp only[binOp,A0n,h1,A0h,A0r]
theorem Dz (t e:TypeId)(p:Option Addr)(h:P.underlying t=some (.pointer e)):(binOp .eql t (.pointer none) (.pointer p)).run P w=.ok (.bool p.isNone) w:=by have h1:(Op.equal t (.pointer none) (.pointer p)).run P w=.ok p.isNone w:=xR 9999 t e p h;simp only[binOp,A0n,h1,A0h,A0r]
theorem Cp (t e:TypeId)(p:Option Addr)(h:P.underlying t=some (.pointer e)):(binOp .neq t (.pointer none) (.pointer p)).run P w=.ok (.bool (!p.isNone)) w:=by have h1:(Op.equal t (.pointer none) (.pointer p)).run P w=.ok p.isNone w:=xR 9999 t e p h;simp only[binOp,A0n,h1,A0h,A0r]
theorem qP {t:TypeId}{xs:Array Value}{i:Nat}{v:Value}(hg:jH P t=some false)(hv:xs[i]? = some v):(part t xs i).run P w=.ok v w:=by simp[part,yN hg,hv]
theorem qS {d:Nat}{xs ys:Array Value}{dx dy:List D}{S:Sets}(p4:xs.size=dx.length)(vB:ys.size=dy.length)(hx:∀(i:Nat) (v:Value) (c:D),xs[i]? = some v→dx[i]? = some c→bA w S v c)(hy:∀(i:Nat) (v:Value) (c:D),ys[i]? = some v→dy[i]? = some c→bA w S v c) :
  ∀(fs:List Field) (i:Nat) (ks:List Nat) (b:Bool),gp P i fs=some ks→D.eqs ks (dx.drop i) (dy.drop i)=some b→(Op.eqFields (d+1) xs ys fs).run P w=.ok b w
 | [],i,ks,b,hf,he=>by simp only[gp] at hf;cases hf;cases h1:dx.drop i <;> cases h2:dy.drop i <;> rw[h1,h2] at he <;> simp[D.eqs] at he;subst he;simp[Op.eqFields]
 | f :: fs,i,ks,b,hf,he=>by
  simp only[gp] at hf;split at hf
  ·rename_i hc;obtain⟨r_,Uy⟩:=hc;have key:∀{AQ:List Nat} {cx cy:D} {rx ry:List D} {r b':Bool},dx.drop i=cx :: rx→dy.drop i=cy :: ry→gp P (i+1) fs=some AQ→jH P f.type=some false →
     (∀{u v:Value},bA w S u cx→bA w S v cy→(Op.equalIn (d+1) f.type u v).run P w=.ok r w)→D.eqs AQ rx ry=some b'→b=(r&&b')→(Op.eqFields (d+1) xs ys (f :: fs)).run P w=.ok b w:=by
    intro AQ cx cy rx ry r b' h1 h2 rX qp hr fI Lo;have ug:i<dx.length:=by
     rcases A0U i dx.length with h | h
     ·exact h
     ·rw[D0y h] at h1;cases h1
    have Yg:i<dy.length:=by
     rcases A0U i dy.length with h | h
     ·exact h
     ·rw[D0y h] at h2;cases h2
    rw[B0S ug] at h1;rw[B0S Yg] at h2;cases h1;cases h2;have hpx:(part f.type xs f.offset).run P w=.ok xs[i] w:=qP qp (by rw[r_];simp[p4,ug]);have hpy:(part f.type ys f.offset).run P w=.ok ys[i] w:=qP qp (by rw[r_];simp[vB,Yg]);have RA:=hr (hx i xs[i] dx[i] (by simp[p4,ug]) (by simp[ug])) (hy i ys[i] dy[i] (by simp[vB,Yg]) (by simp[Yg]));have Qo:=qS (d:=d) p4 vB hx hy fs (i+1) AQ b' rX fI;simp only[Op.eqFields,Uy,ne_eq,not_false_eq_true,B0d,A0n,hpx,hpy,RA,A0h];cases r with
    | false=>simp[Lo]
    | true=>simp[Lo,Qo]
   split at hf
   ·rename_i k hu;obtain⟨AQ,rX,rfl⟩:=A0a.1 hf;unfold D.eqs at he;split at he <;> first | (rename_i e _ _;cases e;done) | skip
    ·rename_i e1 e2 e3;cases e1;split at he
     ·rename_i hk;subst hk;obtain⟨b',h1,rfl⟩:=A0a.1 he;exact key e2 e3 rX (by unfold jH;rw[hu];rfl) (fun Lh JI=>by rw[Lh.v_eq,JI.v_eq];exact run_equalIn_int w d f.type _ k _ _ hu) h1 rfl
     ·cases he
    ·cases he
   ·rename_i hu;obtain⟨AQ,rX,rfl⟩:=A0a.1 hf;unfold D.eqs at he;split at he <;> first | (rename_i e _ _;cases e;done) | skip
    ·rename_i e1 e2 e3;cases e1;obtain⟨b',h1,rfl⟩:=A0a.1 he;exact key e2 e3 rX (by unfold jH;rw[hu];rfl) (fun Lh JI=>by rw[Lh.v_eq,JI.v_eq];exact run_equalIn_bool' w d f.type _ _ hu) h1 rfl
    ·cases he
   ·rename_i hu;obtain⟨AQ,rX,rfl⟩:=A0a.1 hf;unfold D.eqs at he;split at he <;> first | (rename_i e _ _;cases e;done) | skip
    ·rename_i e1 e2 e3;cases e1;obtain⟨b',h1,rfl⟩:=A0a.1 he;exact key e2 e3 rX (by unfold jH;rw[hu];rfl) (fun Lh JI=>by rw[Lh.v_eq,JI.v_eq];exact run_equalIn_string w d f.type _ _ hu) h1 rfl
    ·cases he
   ·cases hf
  ·cases hf
theorem Xa {op:BinOp}{t:TypeId}{x y:Operand}{v u:Value}{kd:Kd}{dx dy dz:D}{S:Sets}(hk:kindOf P t=some kd)(hz:D.bin op kd dx dy=some dz)(hx:bA w S v dx)(hy:bA w S u dy) :
  ∃r,(do eqGuard op t x y v u;binOp op t v u:Sem Value).run P w=.ok r w∧bA w S r dz∧dz.one=true:=by
 unfold D.bin at hz;split at hz
 ·rename_i k a k' b;obtain rfl:=hx.v_eq;obtain rfl:=hy.v_eq;simp only[eqGuard_at_int,A0n,A0r,A0h];clear hk;cases op
  case shl=>simp[shI] at hz;obtain⟨n,⟨hb,rfl⟩,rfl⟩:=hz;exact⟨_,by simp[binOp,Op.shift,show¬b<0 by omega],.v rfl,rfl⟩
  case shr=>simp[shI] at hz;obtain⟨n,⟨hb,rfl⟩,rfl⟩:=hz;exact⟨_,by simp[binOp,Op.shift,show¬b<0 by omega],.v rfl,rfl⟩
  case quo=>simp[rP,Lq] at hz;obtain⟨rfl,n,⟨hb,rfl⟩,rfl⟩:=hz;exact⟨_,by simp[binOp,Op.intDiv,hb],.v rfl,rfl⟩
  case rem=>simp[rP,Lq] at hz;obtain⟨rfl,n,⟨hb,rfl⟩,rfl⟩:=hz;exact⟨_,by simp[binOp,Op.intDiv,hb],.v rfl,rfl⟩
  all_goals (simp only[rP,Lq,A0y] at hz;by_cases RF:k=k' <;> simp only[RF,B0d,B0n,A0x] at hz <;> first | (cases hz;done) | skip)
  all_goals (subst RF;subst hz;exact⟨_,by simp[binOp,Op.intCmp,Op.intArith,Op.intBits],.v rfl,rfl⟩)
 ·rename_i b b';obtain rfl:=hx.v_eq;obtain rfl:=hy.v_eq;have ht:=JB hk;simp only[eqGuard_at_bool,A0n,A0r,A0h];split at hz <;> first | (cases hz;done) | skip
  ·cases hz;exact⟨_,run_eql_bool w t b b' ht,.v rfl,rfl⟩
  ·cases hz;exact⟨_,run_neq_bool w t b b' ht,.v rfl,rfl⟩
 ·rename_i s s';obtain rfl:=hx.v_eq;obtain rfl:=hy.v_eq;simp only[eqGuard_at_string,A0n,A0r,A0h];split at hz <;> first | (cases hz;done) | skip
  ·split at hz
   ·cases hz
   ·rename_i bV;cases hz;exact⟨_,by simp only[binOp,Op.stringOp];rw[A0B bV];rfl,.v rfl,rfl⟩
  all_goals (cases hz;exact⟨_,by simp only[binOp,Op.stringOp];rfl,.v rfl,rfl⟩)
 ·obtain rfl:=hx.v_eq;obtain rfl:=hy.v_eq;obtain⟨e,ht⟩:=lU hk;simp only[C0u,A0n,A0r,A0h];split at hz <;> first | (cases hz;done) | skip
  ·cases hz;exact⟨_,xU t e none ht,.v rfl,rfl⟩
  ·cases hz;exact⟨_,wW t e none ht,.v rfl,rfl⟩
 ·obtain⟨ad,rfl⟩:=hx.Jl;obtain rfl:=hy.v_eq;obtain⟨e,ht⟩:=lU hk;simp only[C0u,A0n,A0r,A0h];split at hz <;> first | (cases hz;done) | skip
  ·cases hz;exact⟨_,xU t e _ ht,.v rfl,rfl⟩
  ·cases hz;exact⟨_,wW t e _ ht,.v rfl,rfl⟩
 ·obtain rfl:=hx.v_eq;obtain⟨ad,rfl⟩:=hy.Jl;obtain⟨e,ht⟩:=lU hk;simp only[C0u,A0n,A0r,A0h];split at hz <;> first | (cases hz;done) | skip
  ·cases hz;exact⟨_,Dz t e _ ht,.v rfl,rfl⟩
  ·cases hz;exact⟨_,Cp t e _ ht,.v rfl,rfl⟩
 ·obtain⟨b,f,rfl,_⟩:=hx.jx;obtain rfl:=hy.v_eq;obtain⟨e,ht⟩:=lU hk;simp only[C0u,A0n,A0r,A0h];split at hz <;> first | (cases hz;done) | skip
  ·cases hz;exact⟨_,xU t e _ ht,.v rfl,rfl⟩
  ·cases hz;exact⟨_,wW t e _ ht,.v rfl,rfl⟩
 ·obtain rfl:=hx.v_eq;obtain⟨b,f,rfl,_⟩:=hy.jx;obtain⟨e,ht⟩:=lU hk;simp only[C0u,A0n,A0r,A0h];split at hz <;> first | (cases hz;done) | skip
  ·cases hz;exact⟨_,Dz t e _ ht,.v rfl,rfl⟩
  ·cases hz;exact⟨_,Cp t e _ ht,.v rfl,rfl⟩
 ·obtain⟨r,rfl⟩:=hx.XC;obtain rfl:=hy.v_eq;obtain⟨k,e,ht⟩:=Fq hk;have hg:(eqGuard op t x y (.map (some r)) (.map none)).run P w=.ok () w:=by cases op <;> simp[eqGuard]
  simp only[A0n,hg,A0h];split at hz <;> first | (cases hz;done) | skip
  ·cases hz;exact⟨_,run_eql_map_nil w t k e _ ht,.v rfl,rfl⟩
  ·cases hz;exact⟨_,run_neq_map_nil w t k e _ ht,.v rfl,rfl⟩
 ·obtain rfl:=hx.v_eq;obtain rfl:=hy.v_eq;obtain⟨k,e,ht⟩:=Fq hk;have hg:(eqGuard op t x y (.map none) (.map none)).run P w=.ok () w:=by cases op <;> simp[eqGuard]
  simp only[A0n,hg,A0h];split at hz <;> first | (cases hz;done) | skip
  ·cases hz;exact⟨_,run_eql_map_nil w t k e none ht,.v rfl,rfl⟩
  ·cases hz;exact⟨_,run_neq_map_nil w t k e none ht,.v rfl,rfl⟩
 ·rename_i ks dx dy;obtain⟨xs,rfl,p4,_,EB⟩:=hx.kq;obtain⟨ys,rfl,vB,_,hyr⟩:=hy.kq;have fG:∃fs:Array Field,P.underlying t=some (.struct fs)∧rL P t=some ks:=by unfold kindOf at hk;split at hk <;> simp at hk;exact⟨_,by assumption,hk⟩
  obtain⟨fs,hu,fG⟩:=fG;unfold rL at fG;rw[hu] at fG;simp only at fG;split at fG
  ·rename_i hc;have Yj:P.fieldsOf t=fs:=by simp[Program.fieldsOf,hu]
   have heq:∀{b:Bool},D.eqs ks dx dy=some b→(Op.equalIn 10000 t (.agg xs) (.agg ys)).run P w=.ok b w:=by intro b hb;rw[run_equalIn_agg w 9999 t xs ys (by rw[Yj];exact hu) hc.1,Yj];exact qS (d:=9998) p4 vB EB hyr fs.toList 0 ks b fG (by simpa using hb)
   have hg:=run_eqGuard_agg (P:=P) w op t x y xs ys hc.2;simp only[A0n,hg,A0h];split at hz
   ·obtain⟨b,hb,rfl⟩:=A0a.1 hz;exact⟨.bool b,by rw[run_eql_struct,heq hb];rfl,.v rfl,rfl⟩
   ·obtain⟨b,hb,rfl⟩:=A0a.1 hz;exact⟨.bool (!b),by rw[run_neq_struct,heq hb];rfl,.v rfl,rfl⟩
   ·cases hz
  ·cases fG
 ·cases hz
theorem Ac {v:Value}{sv:SV}(h:cS w ρ env v sv)(ha:Hf sv=true):∃ad,v=.pointer (some ad):=by
 cases sv <;> simp[Hf] at ha
 ·exact⟨_,h.j6⟩
 ·obtain⟨_,_,_,hv⟩:=h.nP;exact⟨_,hv⟩
 ·obtain⟨_,_,hd⟩:=h.s9;obtain⟨b,f,hv,_⟩:=hd.jx;exact⟨_,hv⟩
theorem Ab {v:Value}{sv:SV}(h:cS w ρ env v sv)(ha:He sv=true):v=.pointer none:=by
 unfold He at ha;split at ha
 ·obtain⟨d,hx,hd,_⟩:=h.jL;simp[E.eval] at hx;subst hx;exact hd.v_eq
 ·simp at ha
theorem My {o:Oper} {op:BinOp} {t yt:TypeId} {x y:Operand} {sx sy:SV} {ix:Nat} {r:cK} (ho:o.op=.binOp op t x y yt) (hl:aby P op t sx sy ix=some r) (hx:cS w ρ env (a.eval x) sx) (hy:cS w ρ env (a.eval y) sy) (h:aF w0 X w a σ env ρ)
  (hd:∀d,o.dst=some d→d<σ.tmps.length) (hb:bD P env ix r.bind):r.cm=none∧ea P o a w w0 X (σ.put o.dst r.val) env:=by
 unfold aby at hl;have ep:∀{v:Value},(do eqGuard op t x y (a.eval x) (a.eval y);binOp op t (a.eval x) (a.eval y):Sem Value).run P w=.ok v w→(execOp a.eval o).run P w=.ok (.value v) w:=by
  intro v hv;unfold execOp;simp only[ho,A0n];simp only[A0n] at hv;cases hg:(eqGuard op t x y (a.eval x) (a.eval y)).run P w with
  | halt _ _=>rw[hg] at hv;simp at hv
  | ok _ w1=>
   rw[hg] at hv;simp only[A0h] at hv ⊢;rw[hv];rfl
 split at hl
 ·rename_i hc;obtain⟨hk,hc⟩:=hc;obtain⟨e,ht⟩:=lU hk;have bt:∀b,(op=.eql∧b=false∨op=.neq∧b=true)→(do eqGuard op t x y (a.eval x) (a.eval y);binOp op t (a.eval x) (a.eval y):Sem Value).run P w=.ok (.bool b) w:=by
   intro b cO;rcases hc with⟨h1,h2⟩ | ⟨h1,h2⟩
   ·obtain⟨ad,hv⟩:=Ac hx h1;have hu:=Ab hy h2;rw[hv,hu];simp only[C0u,A0n,A0r,A0h];rcases cO with⟨rfl,rfl⟩ | ⟨rfl,rfl⟩
    ·exact xU t e _ ht
    ·exact wW t e _ ht
   ·obtain⟨ad,hu⟩:=Ac hy h2;have hv:=Ab hx h1;rw[hv,hu];simp only[C0u,A0n,A0r,A0h];rcases cO with⟨rfl,rfl⟩ | ⟨rfl,rfl⟩
    ·exact Dz t e _ ht
    ·exact Cp t e _ ht
  split at hl
  ·cases hl;exact⟨rfl,bl h hd (ep (bt false (.inl ⟨rfl,rfl⟩))) (.e rfl (.v rfl) fun _=>rfl)⟩
  ·cases hl;exact⟨rfl,bl h hd (ep (bt true (.inr ⟨rfl,rfl⟩))) (.e rfl (.v rfl) fun _=>rfl)⟩
  ·cases hl
 ·split at hl
  ·rename_i kd x' y' hk fm yp;cases hl;obtain⟨dx,iY,iG⟩:=SV.toE_rd fm hx;obtain⟨dy,Eh,X9⟩:=SV.toE_rd yp hy;obtain⟨dz,he,cA⟩:=hb;simp only[E.eval,iY,Eh,A0d] at he;obtain⟨r,bt,hr,h1⟩:=Xa (P:=P) (x:=x) (y:=y) hk he iG X9;exact⟨rfl,bl h hd (ep bt) (.e (d:=dz) (by simp[E.eval,cA]) hr fun _=>h1)⟩
  ·cases hl
theorem Qa {o:Oper} {op:UnOp} {t:TypeId} {x:Operand} {sx:SV} {ix:Nat} {r:cK} (ho:o.op=.unOp op t x) (hl:lun op sx ix=some r) (hx:cS w ρ env (a.eval x) sx) (h:aF w0 X w a σ env ρ)
  (hd:∀d,o.dst=some d→d<σ.tmps.length) (hb:bD P env ix r.bind):r.cm=none∧ea P o a w w0 X (σ.put o.dst r.val) env:=by
 obtain⟨x',fm,rfl⟩:=A0a.1 hl;obtain⟨dx,iY,iG⟩:=SV.toE_rd fm hx;obtain⟨dz,he,cA⟩:=hb;simp only[E.eval,iY,A0d] at he;unfold D.un at he;split at he
 ·rename_i b;cases he;have hv:=iG.v_eq;exact⟨rfl,bl h hd (v:=.bool (!b)) (by unfold execOp;simp[ho,hv,Op.unary]) (.e (by simp only[E.eval,cA]) (.v rfl) fun _=>rfl)⟩
 ·rename_i k n;cases he;have hv:=iG.v_eq;exact⟨rfl,bl h hd (v:=.int k (k.wrap (0-n))) (by unfold execOp;simp[ho,hv,Op.unary,Op.intArith]) (.e (by simp only[E.eval,cA]) (.v rfl) fun _=>rfl)⟩
 ·cases he
theorem Jv {o:Oper} {src dst:TypeId} {x:Operand} {sx:SV} {ix:Nat} {r:cK} (ho:o.op=.convert src dst x) (hl:TC P src dst sx ix=some r) (hx:cS w ρ env (a.eval x) sx) (h:aF w0 X w a σ env ρ)
  (hd:∀d,o.dst=some d→d<σ.tmps.length) (hb:bD P env ix r.bind):r.cm=none∧ea P o a w w0 X (σ.put o.dst r.val) env:=by
 unfold TC at hl;split at hl
 ·rename_i ds k hs gB;obtain⟨x',fm,rfl⟩:=A0a.1 hl;obtain⟨dx,iY,iG⟩:=SV.toE_rd fm hx;obtain⟨dz,he,cA⟩:=hb;simp only[E.eval,iY,A0d] at he;unfold D.conv at he;split at he
  ·rename_i k' n;cases he;have hv:=iG.v_eq;exact⟨rfl,bl h hd (v:=.int k (k.wrap n)) (by unfold execOp;simp[ho,hv,convert,A0G hs,A0G gB,Conv.intToInt]) (.e (by simp only[E.eval,cA]) (.v rfl) fun _=>rfl)⟩
  ·cases he
 ·cases hl
theorem CI {o:Oper} {x:Operand} {sx:SV} {i ix:Nat} {r:cK} (ho:o.op=.extract x i) (hl:CJ sx i ix=some r) (hx:cS w ρ env (a.eval x) sx) (h:aF w0 X w a σ env ρ)
  (hd:∀d,o.dst=some d→d<σ.tmps.length) (hb:bD P env ix r.bind):r.cm=none∧ea P o a w w0 X (σ.put o.dst r.val) env:=by
 have ep:∀{vs:Array Value} {v:Value},a.eval x=.tuple vs→vs[i]? = some v→(execOp a.eval o).run P w=.ok (.value v) w:=by intro vs v hv hi;unfold execOp;simp[ho,hv,Instr.extract,hi]
 unfold CJ at hl;split at hl
 ·rename_i cs;obtain⟨c,hc,rfl⟩:=A0a.1 hl;obtain⟨vs,hv,hlen,hr⟩:=hx.A1;have hi:i<vs.size:=by rw[hlen];exact(A0c.1 hc).1
  exact⟨rfl,bl h hd (ep hv (A0p hi)) (hr i _ c (A0p hi) hc)⟩
 ·rename_i y s;cases hl;obtain⟨d,fo,bO,_⟩:=hx.jL;obtain⟨dz,he,cA⟩:=hb;simp only[E.eval,fo,A0d] at he;unfold D.av at he;split at he
  ·obtain⟨vs,hv,hlen,hr⟩:=bO.A1;have hi:i<vs.size:=by rw[hlen];exact(A0c.1 he).1
   exact⟨rfl,bl h hd (ep hv (A0p hi)) (.e (d:=dz) (by simp[E.eval,cA]) (hr i _ dz (A0p hi) he) (by simp))⟩
  ·cases he
 ·cases hl
theorem zb {o:Oper} {s:TypeId} {x:Operand} {f:Nat} {sx:SV} {r:cK} (ho:o.op=.fieldAddr s x f) (hl:vu P s sx f=some r) (hx:cS w ρ env (a.eval x) sx) (h:aF w0 X w a σ env ρ)
  (hd:∀d,o.dst=some d→d<σ.tmps.length):r.cm=none∧r.bind=none∧ea P o a w w0 X (σ.put o.dst r.val) env:=by
 unfold vu at hl;split at hl
 ·rename_i fs hs;cases hf:fs[f]? with
  | none=>simp[hf] at hl
  | some fd=>
  cases hn:r8 P fd.type with
  | none=>simp[hf,hn] at hl
  | some n=>
  simp only[hf,hn,A0d] at hl;split at hl
  ·cases hl
  ·rename_i Yb;have ep:∀{b off:Nat},a.eval x=.pointer (some ⟨b,off,none⟩)→(execOp a.eval o).run P w=.ok (.value (.pointer (some ⟨b,off+fd.offset,none⟩))) w:=by intro b off hv;unfold execOp;simp[ho,hv,Instr.fieldAt,A0G hs,hf,Instr.sureAddr,fieldPlace,run_sizeOf hn,Yb,gO]
   split at hl
   ·cases hl;exact⟨rfl,rfl,bl h hd (ep hx.j6) .addr⟩
   ·cases hl;obtain⟨m,k,hi,hv⟩:=hx.nP;exact⟨rfl,rfl,bl h hd (ep hv) (by rw[C0m];exact .ax hi)⟩
   ·rename_i y0 aga;cases hl;obtain⟨d,fo,bO⟩:=hx.s9;obtain⟨b,off,hv,hc⟩:=bO.jx;refine⟨rfl,rfl,bl h hd (ep hv) (.ij fo ?_)⟩;have O0:∀(j:Nat) (e:D),(d.cells.drop (aga+fd.offset))[j]? = some e→(d.cells.drop aga)[fd.offset+j]? = some e:=fun j e hj=>by rw[A0Z] at hj ⊢;rwa [C0m] at hj
    refine .ptr (val:=fun j=>((w.cell? ⟨b,off+fd.offset+j,none⟩).getD undef)) (fun j e hj=>(hc _ e (O0 j e hj)).1) (fun j e hj=>?_) (fun j e hj=>?_) fun j e hj=>?_
    ·have:=(hc _ e (O0 j e hj)).2.1;rwa [←C0m] at this
    ·obtain⟨u,hu,_⟩:=(hc _ e (O0 j e hj)).2.2;rw[←C0m] at hu;rw[hu];rfl
    ·obtain⟨u,hu,hr⟩:=(hc _ e (O0 j e hj)).2.2;rw[←C0m] at hu;rw[hu];exact hr
   ·cases hl
 ·cases hl
theorem N7 {S:Sets}{v:Value}{dp d:D}{k:Nat}(h:bA w S v dp)(hd:D.aj k dp=some d):∃b off,v=.pointer (some ⟨b,off,none⟩)∧bA w S (.pointer (some ⟨b,off+k,none⟩)) d∧d.one=true:=by
 cases dp with
 | ptr cs=>
  simp only[D.aj] at hd;cases hd;obtain⟨b,off,hv,hc⟩:=h.jx;refine⟨b,off,hv,?_,rfl⟩;have O0:∀(j:Nat) (e:D),(cs.drop k)[j]? = some e→cs[k+j]? = some e:=fun j e hj=>by rw[A0Z] at hj;exact hj
  refine .ptr (val:=fun j=>((w.cell? ⟨b,off+k+j,none⟩).getD undef)) (fun j e hj=>(hc _ e (O0 j e hj)).1) (fun j e hj=>?_) (fun j e hj=>?_) fun j e hj=>?_
  ·have:=(hc _ e (O0 j e hj)).2.1;rwa [←C0m] at this
  ·obtain⟨u,hu,_⟩:=(hc _ e (O0 j e hj)).2.2;rw[←C0m] at hu;rw[hu];rfl
  ·obtain⟨u,hu,hr⟩:=(hc _ e (O0 j e hj)).2.2;rw[←C0m] at hu;rw[hu];exact hr
 | loc i off=>
  simp only[D.aj] at hd;cases hd;cases h with
  | loc hi=>exact⟨_,off,rfl,.loc hi,rfl⟩
 | _=>simp[D.aj] at hd
theorem Er {o:Oper} {s:TypeId} {x:Operand} {f ix:Nat} {sx:SV} {r:cK} (ho:o.op=.fieldAddr s x f) (hl:GY P s sx f ix=some r) (hx:cS w ρ env (a.eval x) sx) (h:aF w0 X w a σ env ρ)
  (hd:∀d,o.dst=some d→d<σ.tmps.length) (hb:bD P env ix r.bind):r.cm=none∧ea P o a w w0 X (σ.put o.dst r.val) env:=by
 unfold GY at hl;split at hl
 ·rename_i fs p s1 hs;cases hf:fs[f]? with
  | none=>simp[hf] at hl
  | some fd=>
  cases hn:r8 P fd.type with
  | none=>simp[hf,hn] at hl
  | some n=>
  simp only[hf,hn,A0d] at hl;split at hl
  ·cases hl
  ·rename_i Yb;cases hl;obtain⟨dp,hpe,bO,_⟩:=hx.jL;obtain⟨d,he,cA⟩:=hb;simp only[E.eval,hpe,A0d] at he;obtain⟨b,off,hv,Hp,h1⟩:=N7 bO he;refine⟨rfl,bl h hd (v:=.pointer (some ⟨b,off+fd.offset,none⟩)) ?_ (.e (d:=d) (by simp[E.eval,cA]) Hp fun _=>h1)⟩;unfold execOp;simp[ho,hv,Instr.fieldAt,A0G hs,hf,Instr.sureAddr,fieldPlace,run_sizeOf hn,Yb,gO]
 ·cases hl
end
end
end
section
noncomputable section
def toEAll:List SV→Option (List E)
 | []=>some []
 | s :: r=>match s.toE,toEAll r with | some x,some y=>some (x :: y) | _,_=>none
def scalars (P:Program):List TypeId→Option (List Bool)
 | []=>some []
 | t :: r=>match jH P t,scalars P r with | some b,some l=>some ((!b) :: l) | _,_=>none
def oQ (x:E):Nat→List Bool→List SV
 | _,[]=>[]
 | i,b :: r=>.e (.av i x) b :: oQ x (i+1) r
def p7 (x:E):List Bool→SV
 | [b]=>.e x b
 | rs=>.a_ (oQ x 0 rs)
def qf (P:Program)(f:FuncId)(args:List SV)(obj:Nat→Option aY)(ix:Nat):Option cK:=
 match P.funcs[f]? with
 | some fn => if (fn.name == "runtime.NumGoroutine") = true ∨ fn.body.isNone = true then none else
  match scalars P fn.resultTypes.toList,toEAll args,obj br with
  | some rs,some xs,some (.store cf h)=>if cf.XK.contains f then some { val:=p7 (.sym ix) rs,bind:=some (.call [] f (.const (.st [])) (xs.map E.gL) rs) } else if cf.wr.contains f then(if cf.ro then none else some { val:=p7 (.av 0 (.sym ix)) rs,cm:=some (br,.store cf (.av 1 (.sym ix))),bind:=some (.bw [] f h xs rs) })
   else some { val:=p7 (.sym ix) rs,bind:=some (.call [] f h xs rs) }
  | _,_,_=>none
 | none=>none
def IF (P:Program)(t:TypeId):Option (List Bool):=
 match P.underlying t with
 | some (.tuple ts)=>scalars P ts.toList
 | some _=>scalars P [t]
 | none=>none
def G2 (P:Program)(x:E)(args:List SV)(o:Oper)(obj:Nat→Option aY)(ix:Nat):Option cK:=
 match IF P o.type,toEAll args,obj br with
 | some rs,some xs,some (.store cf h)=>if cf.wr.contains (1000000+o.dst.getD 999999) then(if cf.ro then none else some { val:=p7 (.av 0 (.sym ix)) rs,cm:=some (br,.store cf (.av 1 (.sym ix))),bind:=some (.dG [] x h xs rs) })
   else some { val:=p7 (.sym ix) rs,bind:=some (.ei [] x h xs rs) }
 | _,_,_=>none
def Tv (fn:Fn)(first cr:List SV)(ix:Nat):Option cK:=
 match fn,SV.toTs first,SV.toTs cr with
 | .func f,some x,some y=>some { val:=.e (.sym ix) true,bind:=some (.ev (.b_ f x y)) }
 | _,_,_=>none
section
variable {P:Program} {w w0:World} {X:jN} {a:Act} {σ:ah} {env:List D} {ρ:dD}
theorem yZ {o:Oper} {t:TypeId} {x i:Operand} {sx si:SV} {ix:Nat} {r:cK} (ho:o.op=.indexAddr t x i) (hl:lS P t sx si σ.obj ix=some r) (hx:cS w ρ env (a.eval x) sx) (hi:cS w ρ env (a.eval i) si) (h:aF w0 X w a σ env ρ)
  (hd:∀d,o.dst=some d→d<σ.tmps.length) (hb:bD P env ix r.bind):r.cm=none∧ea P o a w w0 X (σ.put o.dst r.val) env:=by
 unfold lS at hl;split at hl
 ·rename_i e i' ht qn;cases hn:r8 P e with
  | none=>simp[hn] at hl
  | some n=>
  simp only[hn,A0d] at hl;have he:P.elem t=e:=by simp[Program.elem,ht]
  obtain⟨di,Yn,Ya⟩:=SV.toE_rd qn hi;have ep:∀{b off len cap:Nat} {k:IntKind} {m:Nat},a.eval x=.slice (some ⟨b,off,none⟩) len cap→a.eval i=.int k m→m<len→(execOp a.eval o).run P w=.ok (.value (.pointer (some ⟨b,off+m*n,none⟩))) w:=by intro b off len cap k m hv UF hm;have hr:=run_indexAt_slice (P:=P) w t ⟨b,off,none⟩ len cap k m (by rw[he];exact ht);rw[A0z ⟨by omega,by omega⟩,he,run_sizeOf hn] at hr;simp only[A0h,C0j,gO] at hr;unfold execOp;simp only[ho,hv,UF,A0n,hr,A0h,A0r]
  split at hl
  ·rename_i ob;split at hl
   ·rename_i l sz cO;split at hl
    ·rename_i bV;cases hl;obtain⟨vs,ty,es,hh,p4,hz,iL,hr,fB,RD,hS⟩:=h.cT ob _ cO;obtain⟨d,bX,cA⟩:=hb;simp only[E.eval,p4,Yn,A0d] at bX;unfold D.idx at bX;split at bX
     ·rename_i vN k m kS;cases kS;split at bX
      ·rename_i hm0;have qD:m.toNat<es.length:=(A0c.1 bX).1;have JQ:m=((m.toNat:Nat):Int):=by omega
       have hv:a.eval x=.slice (some ⟨ρ.blk ob,0,none⟩) es.length es.length:=hx.qM.trans fB;have UF:a.eval i=.int k (m.toNat:Nat):=by rw[←JQ];exact Ya.v_eq
       have hp:cS w ρ env (.pointer (some ⟨ρ.blk ob,m.toNat*n+0,none⟩)) (.ax ob i' n 0):=.ax (k:=k) (by rw[Yn,←JQ]);refine⟨rfl,bl h hd (ep hv UF qD) ?_⟩;simpa[D0J] using hp
      ·cases bX
     ·cases bX
    ·cases hl
   ·cases hl
  ·rename_i jP;obtain⟨l,iH,rfl⟩:=A0a.1 hl;obtain⟨dl,fR,HX⟩:=SV.toE_rd iH hx;obtain⟨d,bX,cA⟩:=hb;simp only[E.eval,fR,Yn,A0d] at bX;unfold D.ax at bX;split at bX
   ·rename_i es k m;split at bX
    ·rename_i hm0;obtain⟨el,oe,bX⟩:=A0b.1 bX;split at bX
     ·rename_i dU;cases bX;have qD:m.toNat<es.length:=(A0c.1 oe).1;have JQ:m=((m.toNat:Nat):Int):=by omega
      have UF:a.eval i=.int k (m.toNat:Nat):=by rw[←JQ];exact Ya.v_eq
      generalize hv:a.eval x=v at HX;cases HX with
      | nil=>simp at oe
      | emp _=>simp at oe
      | @bk b off len cap size _ val hlen hc hm hz Lj hS hw hr=>
       have HW:size=n:=by rw[←hz _ _ oe];exact dU
       subst HW;refine⟨rfl,bl h hd (ep hv UF (by omega)) (.e (d:=.ptr el.cells) (by simp[E.eval,cA]) ?_ fun _=>rfl)⟩;exact .ptr (val:=val m.toNat) (fun j e hj=>Lj _ _ j e oe (by simpa using hj)) (fun j e hj=>hS _ _ j e oe (by simpa using hj)) (fun j e hj=>hw _ _ j e oe (by simpa using hj)) fun j e hj=>hr _ _ j e oe (by simpa using hj)
     ·cases bX
    ·cases bX
   ·rename_i j off len k m;split at bX
    ·rename_i hm0;cases bX;have JQ:m=((m.toNat:Nat):Int):=by omega
     have UF:a.eval i=.int k (m.toNat:Nat):=by rw[←JQ];exact Ya.v_eq
     generalize hv:a.eval x=v at HX;cases HX with
     | sl hj hle hc h0=>exact⟨rfl,bl h hd (ep hv UF (by omega)) (.e (d:=.loc j (off+m.toNat*n)) (by simp[E.eval,cA]) (.loc hj) fun _=>rfl)⟩
    ·cases bX
   ·cases bX
 ·rename_i len e i' ht qn;obtain⟨n,hn,hl⟩:=A0b.1 hl;obtain⟨p,hp,rfl⟩:=A0a.1 hl;have he:P.elem t=e:=by simp[Program.elem,ht]
  have hlen:P.arrayLen t=len:=by simp[Program.arrayLen,ht]
  obtain⟨di,Yn,Ya⟩:=SV.toE_rd qn hi;obtain⟨dp,hdp,RB⟩:=SV.toE_rd hp hx;obtain⟨d,bX,cA⟩:=hb;simp only[E.eval,hdp,Yn,A0d,D.m4,D.iJ] at bX;split at bX
  ·rename_i k m;split at bX
   ·rename_i hm0;have JQ:m=((m.toNat:Nat):Int):=by omega
    have UF:a.eval i=.int k (m.toNat:Nat):=by rw[←JQ];exact Ya.v_eq
    obtain⟨b,off,hv,bO,h1⟩:=N7 RB bX;have bt:(execOp a.eval o).run P w=.ok (.value (.pointer (some ⟨b,off+m.toNat*n,none⟩))) w:=by have hr:=run_indexAt_array (P:=P) w t ⟨b,off,none⟩ k (m.toNat:Nat) (by rw[he,hlen];exact ht);rw[hlen,A0z ⟨by omega,by omega⟩,he,run_sizeOf hn] at hr;simp only[A0h,C0j,gO] at hr;unfold execOp;simp only[ho,hv,UF,A0n,hr,A0h,A0r]
    exact⟨rfl,bl h hd bt (.e (by simp[E.eval,cA]) bO fun _=>h1)⟩
   ·cases bX
  ·cases bX
 ·cases hl
theorem Mj {o:Oper} {x:Operand} {sx:SV} {ix:Nat} {r:cK} (ho:o.op=.nilCheck x) (hl:abr sx ix=some r) (hx:cS w ρ env (a.eval x) sx) (h:aF w0 X w a σ env ρ)
  (hd:∀d,o.dst=some d→d<σ.tmps.length) (hb:bD P env ix r.bind):r.cm=none∧ea P o a w w0 X (σ.put o.dst r.val) env:=by
 have ep:∀{ad:Addr},a.eval x=.pointer (some ad)→(execOp a.eval o).run P w=.ok (.value (.pointer (some ad))) w:=by intro ad hv;unfold execOp;simp only[ho,hv];rfl
 unfold abr at hl;split at hl
 ·cases hl;have hv:=hx.j6;exact⟨rfl,bl h hd (ep hv) (hv ▸ hx)⟩
 ·cases hl;obtain⟨m,k,_,hv⟩:=hx.nP;exact⟨rfl,bl h hd (ep hv) (hv ▸ hx)⟩
 ·rename_i fn cs;obtain⟨vs,hv,_⟩:=hx.oh;split at hl
  ·cases hl
  ·rename_i bQ;cases hl;refine⟨rfl,bl h hd (v:=.func fn #[] vs) ?_ (hv ▸ hx)⟩;unfold execOp;simp only[ho,hv];cases fn <;> first | rfl | exact absurd rfl (bQ _)
 ·cases hl;obtain⟨d,_,bO⟩:=hx.s9;obtain⟨b,off,hv,_⟩:=bO.jx;exact⟨rfl,bl h hd (ep hv) (hv ▸ hx)⟩
 ·cases hl;obtain⟨d,fo,bO,_⟩:=hx.jL;obtain⟨dz,he,cA⟩:=hb;simp only[E.eval,fo,A0d] at he;unfold D.nn at he;split at he
  ·cases he;obtain⟨b,off,hv,_⟩:=bO.jx;exact⟨rfl,bl h hd (ep hv) (.e (d:=_) (show(E.sym ix).eval env=_ from cA) (by rw[←hv];exact bO) fun _=>rfl)⟩
  ·cases he;generalize hv:a.eval x=v at bO;cases bO with
   | loc hi=>exact⟨rfl,bl h hd (ep hv) (.e (by simp only[E.eval,cA]) (.loc hi) fun _=>rfl)⟩
  ·cases he;have hk:=bO;generalize hv:a.eval x=v at bO;cases bO with
   | fn h1 h2 h3 h4=>
    refine⟨rfl,bl h hd (v:=a.eval x) ?_ (.e (by simp only[E.eval,cA]) hk fun _=>rfl)⟩;unfold execOp;simp only[ho,hv];rfl
  ·cases he
 ·cases hl
theorem Dw {o:Oper}{t:TypeId}{x:Operand}{v:Value}(ho:o.op=.call { callee:=.builtin .len,args:=#[x],argTypes:=#[t] })(hr:(Builtin.len_ #[t] o.type #[a.eval x]).run P w=.ok v w):(execOp a.eval o).run P w=.ok (.value v) w:=by unfold execOp;simp only[ho,resolve,invoke,builtin,A0n,A0r,A0h,C0f,B0p,C0x,hr]
theorem Mo {o:Oper} {t:TypeId} {x:Operand} {sx:SV} {ix:Nat} {r:cK} (ho:o.op=.call { callee:=.builtin .len,args:=#[x],argTypes:=#[t] }) (hl:Qg P t sx σ.obj ix=some r) (hx:cS w ρ env (a.eval x) sx) (h:aF w0 X w a σ env ρ)
  (hd:∀d,o.dst=some d→d<σ.tmps.length) (hb:bD P env ix r.bind):r.cm=none∧ea P o a w w0 X (σ.put o.dst r.val) env:=by
 unfold Qg at hl;split at hl
 ·rename_i e ht;have he:P.elem t=e:=by simp[Program.elem,ht]
  have ep:∀{ad:Option Addr} {n c:Nat},a.eval x=.slice ad n c→(execOp a.eval o).run P w=.ok (.value (.int .i64 n)) w:=by intro ad n c hv;refine Dw ho ?_;rw[hv];exact run_len_slice (P:=P) w t o.type ad n c (by rw[he];exact ht)
  have fin:∀{ad:Option Addr} {n c:Nat} {es:List D},a.eval x=.slice ad n c→n=es.length→env[ix]? = some (.v (.int .i64 es.length))→ea P o a w w0 X (σ.put o.dst (.e (.sym ix) true)) env:=by intro ad n c es hv hn cA;exact bl h hd (ep hv) (.e (d:=.v (.int .i64 n)) (by rw[E.eval,cA,hn]) (.v rfl) fun _=>rfl)
  split at hl
  ·rename_i ob;split at hl
   ·rename_i l sz cO;cases hl;obtain⟨vs,ty,es,hh,p4,hz,iL,hr,fB,RD,hS⟩:=h.cT ob _ cO;obtain⟨d,bX,cA⟩:=hb;simp only[E.eval,p4,A0d,D.bI] at bX;cases bX;exact⟨rfl,fin (hx.qM.trans fB) rfl cA⟩
   ·cases hl
  ·obtain⟨l,iH,rfl⟩:=A0a.1 hl;obtain⟨dl,fR,HX⟩:=SV.toE_rd iH hx;obtain⟨d,bX,cA⟩:=hb;simp only[E.eval,fR,A0d] at bX;unfold D.bI at bX;split at bX
   ·cases bX;obtain⟨ad,n,c,hv,hn⟩:=HX.CC;exact⟨rfl,fin hv hn cA⟩
   ·cases bX;generalize hv:a.eval x=v at HX;cases HX with
    | sl hi hle hc h0=>exact⟨rfl,bl h hd (ep hv) (.e (by simp only[E.eval,cA]) (.v rfl) fun _=>rfl)⟩
   ·cases bX;generalize hv:a.eval x=v at HX;cases HX with
    | bS=>exact⟨rfl,bl h hd (ep hv) (.e (by simp only[E.eval,cA];rfl) (.v rfl) fun _=>rfl)⟩
   ·cases bX
 ·rename_i ht;obtain⟨l,iH,rfl⟩:=A0a.1 hl;obtain⟨dl,fR,HX⟩:=SV.toE_rd iH hx;obtain⟨d,bX,cA⟩:=hb;simp only[E.eval,fR,A0d] at bX;unfold D.gy at bX;split at bX
  ·rename_i s;cases bX;have hv:=HX.v_eq;exact⟨rfl,bl h hd (Dw ho (v:=.int .i64 s.size) (by rw[hv];simp[Builtin.len_,A0G ht,goInt])) (.e (by simp only[E.eval,cA]) (.v rfl) fun _=>rfl)⟩
  ·cases bX
 ·cases hl
theorem Te {o:Oper} {d:Nat} {vs:Array Value} {cs:List SV} {ty:TypeId} (h:aF w0 X w a σ env ρ) (gB:o.dst=some d) (hd:d<σ.tmps.length) (Dg:d<σ.mem.length) (iI:σ.obj d=none) (mU:σ.aM d)
  (hl:vs.size=cs.length) (cV:∀(i:Nat) (v:Value),vs[i]? = some v→v.oneCell'=true) (hr:∀(i:Nat) (v:Value) (c:SV),vs[i]? = some v→cs[i]? = some c→cS w ρ env v c) (aoE:SV.dL d cs=true)
  (bt:(execOp a.eval o).run P w=.ok (.value (.pointer (some ⟨w.heap.size,0,none⟩))) (w.alloc (.cells vs ty))):ea P o a w w0 X ((σ.setObj d (some (.box cs))).put o.dst (.addr d 0)) env:=by
 have hk:bM ρ.S w (w.alloc (.cells vs ty)):=bM.alloc h.cells _;have bg:=h.fe (o:=d) (x:=.box cs) (v:=undef) Dg iI mU hk (fun b hb=>g_ w _ b hb) rfl ⟨rfl,A0m _⟩ rfl (by simp) ?_ ?_
 ·refine bW bt (bg.put (by rw[gB];intro d' e;cases e;rw[ah.aP];exact hd) ?_);have hbk:(ρ.fe d w.heap.size undef).blk d=w.heap.size:=by simp[dD.fe]
  have hp:cS (w.alloc (.cells vs ty)) (ρ.fe d w.heap.size undef) env (.pointer (some ⟨(ρ.fe d w.heap.size undef).blk d,0,none⟩)) (.addr d 0):=.addr;rwa [hbk] at hp
 ·refine⟨vs,ty,?_,hl,cV,fun i v c hv hc=>(hr i v c hv hc).keep hk (ρ.wm _ _ _) fun o' e=>by subst e;exact SV.eR aoE hc,fun off hs=>?_⟩
  ·simp only[dD.fe,B0d];exact C0p w _
  ·have:=h.cells _ off hs;simp[dD.fe] at this
 ·intro b hb;simpa[bN,dD.fe] using hb.symm
theorem DH (d:Nat)(v:Value):(nC v).aM d=true:=by unfold nC;split <;> rfl
theorem zJ (d:Nat):∀(l:List Value),SV.dL d (l.map nC)=true
 | []=>rfl
 | v :: r=>by simp[SV.dL,DH,zJ d r]
def BA (P:Program)(t:TypeId):Bool:=match(P.info? t).bind (·.zero) with | some z=>z.cells.toList.all (·.oneCell') | none=>false
theorem G5 {o:Oper} {t:TypeId} {r:cK} (ho:o.op=.alloc t) (HV:BA P t=true) (hl:G6 P t o.dst=some r) (h:aF w0 X w a σ env ρ) (hd:∀d,o.dst=some d→d<σ.tmps.length) (hm:σ.mem.length=σ.tmps.length)
  (iI:∀d,o.dst=some d→σ.obj d=none∧σ.aM d):∃d x,o.dst=some d∧r.cm=some (d,x)∧r.bind=none∧ea P o a w w0 X ((σ.setObj d (some x)).put o.dst r.val) env:=by
 unfold G6 at hl;split at hl
 ·rename_i d cs gB hz;cases hl;unfold NK at hz;obtain⟨z,hz0,rfl⟩:=A0a.1 hz;refine⟨d,_,gB,rfl,rfl,?_⟩;have fo:=hd d gB;obtain⟨hf,mU⟩:=iI d gB;have bt:(execOp a.eval o).run P w=.ok (.value (.pointer (some ⟨w.heap.size,0,none⟩))) (w.alloc (.cells z.cells t)):=by unfold execOp;simp only[ho,Instr.alloc,A0n,ig hz0,A0h,newVar,newRow,A0r,E0E];rfl
  refine Te (vs:=z.cells) (cs:=z.cells.toList.map nC) h gB fo (Nat.lt_of_lt_of_eq fo hm.symm) hf mU (by simp) (fun i v hv=>?_) (fun i v c hv hc=>?_) (zJ d _) bt
  ·unfold BA at HV;rw[hz0] at HV;simp only[A0C] at HV;exact HV v (A0I (by simpa using hv))
  ·simp only[A0w] at hc;have gQ:z.cells.toList[i]? = some v:=by simpa using hv
   rw[gQ] at hc;cases hc;exact DG v
 ·cases hl
theorem SV.Gh {n ix:Nat}{sv:SV}{cs:List SV}{b:Option Bind}{d:Nat}(h:sv.split n ix=some (cs,b))(ha:sv.aM d=true):SV.dL d cs=true:=by
 have all:∀(l:List SV),(∀c,c∈l→c.aM d=true)→SV.dL d l=true:=by
  intro l
  induction l with
  | nil=>intro _;rfl
  | cons c r ih=>intro hh;simp only[SV.dL,A0f];exact⟨hh c (by simp),ih fun x hx=>hh x (by simp[hx])⟩
 unfold SV.split at h;split at h
 ·split at h
  ·cases h;simpa[SV.aM] using ha
  ·cases h
 ·split at h
  ·cases h;refine all _ fun c hc=>?_;simp only[A0F] at hc;obtain⟨_,_,rfl⟩:=hc;rfl
  ·cases h
 ·cases h;refine all _ fun c hc=>?_;simp only[A0F] at hc;obtain⟨_,_,rfl⟩:=hc;rfl
 ·cases h
theorem SV.DN {agg : Bool} {n ix : Nat} {obj : Nat → Option aY} {sv : SV} {cs : List SV} {b : Option Bind} {d : Nat} (h : sv.cellsOf agg n ix obj = some (cs, b)) (ha : sv.aM d = true) : SV.dL d cs = true := by
  unfold SV.cellsOf at h;cases agg with
  | true => simp only [B0d] at h; exact SV.Gh h ha
  | false =>
    simp only [A0S, B0n] at h;split at h <;> first
      | (cases h; simp only [SV.dL, E0L]; first | exact ha | rfl)
      | (split at h
         · cases h; simpa [SV.dL] using ha
         · cases h)
      | cases h
theorem Mv {o:Oper} {t:TypeId} {x:Operand} {sx:SV} {ix:Nat} {r:cK} (ho:o.op=.box t x) (hl:Mx P t sx o.dst σ.obj ix=some r) (hx:cS w ρ env (a.eval x) sx) (h:aF w0 X w a σ env ρ) (hd:∀d,o.dst=some d→d<σ.tmps.length) (hm:σ.mem.length=σ.tmps.length)
  (iI:∀d,o.dst=some d→σ.obj d=none∧σ.aM d∧sx.aM d=true) (hb:bD P env ix r.bind):∃d x,o.dst=some d∧r.cm=some (d,x)∧ea P o a w w0 X ((σ.setObj d (some x)).put o.dst r.val) env:=by
 unfold Mx at hl;split at hl
 ·rename_i d agg n gB hg hn;obtain⟨⟨cs,b⟩,AS,rfl⟩:=A0a.1 hl;refine⟨d,_,gB,rfl,?_⟩;have fo:=hd d gB;obtain⟨hf,mU,anx⟩:=iI d gB;obtain⟨h1,h2,h3⟩:=SV.DM (P:=P) h.cT AS hb hx;have bt:(execOp a.eval o).run P w=.ok (.value (.pointer (some ⟨w.heap.size,0,none⟩))) (w.alloc (.cells (a.eval x).cells t)):=by unfold execOp;simp only[ho,Instr.box,A0n,A0h,newVar,newRow,A0r,E0E];rfl
  exact Te h gB fo (Nat.lt_of_lt_of_eq fo hm.symm) hf mU h1 h2 h3 (SV.DN AS anx) bt
 ·cases hl
theorem toEAll_rd:∀{rU:List SV} {xs:List E} {vs:List Value},toEAll rU=some xs→vs.length=rU.length→(∀(i:Nat) (v:Value) (c:SV),vs[i]? = some v→rU[i]? = some c→cS w ρ env v c) →
  ∃ds,aA env xs=some ds∧vs.length=ds.length∧∀(i:Nat) (v:Value) (d:D),vs[i]? = some v→ds[i]? = some d→bA w ρ.S v d
 | [],xs,vs,h,hl,_=>by simp[toEAll] at h;subst h;have:vs=[]:=A0D (by simpa using hl);subst this;exact⟨[],rfl,rfl,by simp⟩
 | s :: r,xs,vs,h,hl,hh=>by
  match vs,hl with
  | v :: vs,hl=>
   simp only[toEAll] at h;split at h
   ·rename_i y z hy hz;cases h;obtain⟨d,hd,bO⟩:=SV.toE_rd hy (hh 0 v s rfl rfl);obtain⟨ds,he,fR,kQ⟩:=toEAll_rd (vs:=vs) hz (by simpa using hl) fun i v c hv hc=>hh (i+1) v c (by simpa using hv) (by simpa using hc);refine⟨d :: ds,by simp[aA,hd,he],by simp[fR],fun i v' d' hv fo=>?_⟩;cases i with
    | zero=>simp at hv fo;subst hv fo;exact bO
    | succ i=>exact kQ i v' d' (by simpa using hv) (by simpa using fo)
   ·cases h
theorem zN (x:E):∀(rs:List Bool) (k i:Nat) (c:SV),(oQ x k rs)[i]? = some c→∃b,rs[i]? = some b∧c=.e (.av (k+i) x) b
 | [],_,_,_,h=>by simp[oQ] at h
 | b :: r,k,0,c,h=>by simp[oQ] at h;exact⟨b,rfl,h.symm⟩
 | b :: r,k,i+1,c,h=>by obtain⟨b',h1,h2⟩:=zN x r (k+1) i c (by simpa[oQ] using h);exact⟨b',by simpa using h1,by rw[h2,show k+1+i=k+(i+1) from by omega]⟩
theorem sC (x:E):∀(rs:List Bool) (k:Nat),(oQ x k rs).length=rs.length
 | [],_=>rfl
 | _ :: r,k=>by simp[oQ,sC x r]
theorem Ao:∀{rs:List Bool} {ds:List D},rM rs ds=true→rs.length=ds.length∧∀(i:Nat) (b:Bool) (d:D),rs[i]? = some b→ds[i]? = some d→b=true→d.one=true
 | [],[],_=>⟨rfl,by simp⟩
 | [],_ :: _,h=>by simp[rM] at h
 | _ :: _,[],h=>by simp[rM] at h
 | b :: r,d :: s,h=>by
  simp only[rM,A0f,B0v,B0j] at h;obtain⟨h1,h2⟩:=Ao h.2;refine⟨by simp[h1],fun i b' d' hb hd ht=>?_⟩;cases i with
  | zero=>simp at hb hd;subst hb hd;exact h.1.resolve_left (by simp[ht])
  | succ i=>exact h2 i b' d' (by simpa using hb) (by simpa using hd) ht
theorem jS {x:E}{rs:List Bool}{v:Value}{d:D}(hx:x.eval env=some d)(hr:bA w ρ.S v d)(dQ:d.fits rs=true):cS w ρ env v (p7 x rs):=by
 unfold p7;split
 ·rename_i b;simp only[D.fits,B0v,B0j] at dQ;exact .e hx hr fun Yq=>dQ.resolve_left (by simp[Yq])
 ·rename_i bQ;have ah6:∃ds,d=.a_ ds∧rM rs ds=true:=by
   unfold D.fits at dQ;split at dQ
   ·exact(bQ _ rfl).elim
   ·split at dQ
    ·exact⟨_,rfl,dQ⟩
    ·cases dQ
  obtain⟨ds,rfl,hfa⟩:=ah6;obtain⟨fG,Yj⟩:=Ao hfa;obtain⟨vs,rfl,iL,hvr⟩:=hr.A1;refine .a_ (by rw[sC,iL,fG]) fun i v c hv rY=>?_;obtain⟨b,fI,rfl⟩:=zN x rs 0 i c rY;have hi:i<ds.length:=by rw[←fG];exact(A0c.1 fI).1
  exact .e (d:=ds[i]) (by simp[E.eval,hx,D.av,hi]) (hvr i v _ hv (A0e hi)) fun Yq=>Yj i b _ fI (A0e hi) Yq
theorem aF.behind {w':World}{S':Sets}(h:aF w0 X w a σ env ρ)(hb:Blw w.heap.size w w')(h1:ρ.S≤S')(hn:S'.n=ρ.S.n)(h2:∀b o,S' b o→ρ.S b o∨w.heap.size≤b)(h3:∀b o,S' b o→b<w'.heap.size):aF w0 X w' a σ env { ρ with S:=S' }:=by
 refine h.move (fun b o hs=>hb.cell (p:=⟨b,o,none⟩) (h.cells b o hs)) ⟨⟨fun _ _=>rfl,fun _ _=>rfl,h1⟩,fun _=>hn,fun _=>rfl⟩ (fun o x b ho hx=>hb.block b (h.own o x b ho hx).2) (fun o x b off ho hx hs=>?_) h3 hb.os hb.tl hb.output hb.size (fun b hlt _=>hb.block b (A0v hlt h.grown)) (fun b o hs=>(h2 b o hs).elim .inl fun e=>.inr (A0J h.grown e));rcases h2 b off hs with h4 | h4
 ·exact h4
 ·have:=(h.own o x b ho hx).2;omega
theorem gj (h:aF w0 X w a σ env ρ){cf:cF}{x:E}(hx:σ.obj br=some (.store cf x)):∀b,ρ.az b→b<w.heap.size:=fun b hb=>(h.own br _ b hx hb).2
theorem rO {env:List D}:∀{xs:List E} {ds:List D},aA env (xs.map E.gL)=some ds→aA env xs=some ds∧eD ds=true
 | [],ds,h=>by simp only[C0x,aA,A0x] at h;subst h;exact⟨rfl,rfl⟩
 | x :: r,ds,h=>by
  simp only[B0p,aA,A0b,A0a] at h;obtain⟨d,h1,kL,h2,rfl⟩:=h;obtain⟨g1,g2⟩:=rO h2;simp only[E.eval,A0b] at h1;obtain⟨d0,k1,_,_,_,_,_,_,k2⟩:=h1;simp only[D.m4] at k2;split at k2
  ·rename_i hn;cases k2;exact⟨by simp[aA,k1,g1],by simp[eD,hn,g2]⟩
  ·cases k2
theorem xq {o : Oper} {f : FuncId} {vals : Array Value} {rU : List SV} {ix : Nat} {r : cK} (bt : ∀ fn, P.funcs[f]? = some fn → (fn.name == "runtime.NumGoroutine") = false → fn.body.isNone = false → (execOp a.eval o).run P w = .ok (.enter f vals) w)
  (hl:qf P f rU σ.obj ix=some r) (hlen:vals.size=rU.length) (hx:∀(i:Nat) (x:Value) (s:SV),vals[i]? = some x→rU[i]? = some s→cS w ρ env x s) (h:aF w0 X w a σ env ρ) (hd:∀d,o.dst=some d→d<σ.tmps.length)
  (hb:bD P env ix r.bind):(r.cm=none∧ea P o a w w0 X (σ.put o.dst r.val) env)∨∃ob z,r.cm=some (ob,z)∧ea P o a w w0 X ((σ.setObj ob (some z)).put o.dst r.val) env:=by
 unfold qf at hl;split at hl
 ·rename_i fn hf;split at hl
  ·cases hl
  ·rename_i RC;simp only[E0G,A0P] at RC;replace bt:=bt fn hf RC.1 RC.2;split at hl
   ·rename_i rs xs cf hE kf Hi cO;obtain⟨bs,gr,hst,_⟩:=h.cT _ _ cO;obtain⟨kL,nk,fR,bO⟩:=toEAll_rd (vs:=vals.toList) Hi (by simpa using hlen) (fun i v s hv hs=>hx i v s (by simpa using hv) hs);split at hl
    ·cases hl;refine .inl ⟨rfl,fun Q=>?_⟩;obtain⟨d,cA,Aj⟩:=hb;obtain⟨st,ds,yq,bX,gz,dQ⟩:=Aj (by intro p hp;cases hp);cases yq;obtain⟨bX,uS⟩:=rO bX;rw[bX] at nk;cases nk;rw[bt];refine⟨fun e=>(by cases e),callsIn_wide.2 ?_⟩;refine(eS.Cj gz uS bs w ρ.S ρ.az bs vals rfl hst (h.lY cO) (gj h cO) h.cells (by simpa using fR) (fun i v x hv fm=>bO i v x (by simpa using hv) fm)).mono ?_
     rintro e w' ⟨v,S',⟨rfl,hr⟩,vJ,sr,HW,oH,Bo⟩
     exact⟨_,(h.behind vJ sr HW oH Bo).put hd (jS (by simp only[E.eval,cA]) hr dQ)⟩
    split at hl
    ·split at hl
     ·cases hl
     ·rename_i fQ;cases hl;refine .inr ⟨br,_,rfl,fun Q=>?_⟩;obtain⟨st,d,h',yq,cA,Aj,_⟩:=hb;obtain⟨ds,bX,gz,dQ⟩:=Aj (by intro p hp;cases hp);rw[gr] at yq;cases yq;rw[bX] at nk;cases nk;rw[bt];refine⟨fun e=>(by cases e),callsIn_wide.2 ?_⟩;refine(gz w ρ.S ρ.az bs vals rfl hst (h.lY cO) (gj h cO) h.cells (by simpa using fR) (fun i v x hv fm=>bO i v x (by simpa using hv) fm)).mono ?_
      rintro e w' ⟨v,S',bJ,bs',⟨rfl,hr⟩,rfl,dP,hk,hS,nZ,ht,fZ,bV,uT,pU,H8,J6⟩
      have bg:=h.gJ (x':=.av 1 (.sym ix)) cO (by simpa using fQ) (by simp only[E.eval,cA];rfl) dP hk hS nZ ht fZ bV uT pU H8 J6;exact⟨_,bg.put (by rw[ah.aP];exact hd) (jS (by simp only[E.eval,cA];rfl) hr dQ)⟩
    ·cases hl;refine .inl ⟨rfl,fun Q=>?_⟩;obtain⟨d,cA,Aj⟩:=hb;obtain⟨st,ds,yq,bX,gz,dQ⟩:=Aj (by intro p hp;cases hp);rw[gr] at yq;cases yq;rw[bX] at nk;cases nk;rw[bt];refine⟨fun e=>(by cases e),callsIn_wide.2 ?_⟩;refine(gz w ρ.S ρ.az bs vals rfl hst (h.lY cO) (gj h cO) h.cells (by simpa using fR) (fun i v x hv fm=>bO i v x (by simpa using hv) fm)).mono ?_
     rintro e w' ⟨v,S',⟨rfl,hr⟩,vJ,sr,HW,oH,Bo⟩
     exact⟨_,(h.behind vJ sr HW oH Bo).put hd (jS (by simp only[E.eval,cA]) hr dQ)⟩
   ·cases hl
 ·cases hl
theorem Jw {o:Oper} {f:FuncId} {c:Operand} {args:Array Operand} {ts:Array TypeId} {rU:List SV} {ix:Nat} {r:cK} (ho:o.op=.call { callee:=.value c,args:=args,argTypes:=ts }) (hc:a.eval c=.func (.func f) #[] #[])
  (hl:qf P f rU σ.obj ix=some r) (hlen:args.size=rU.length) (hx:∀(i:Nat) (x:Operand) (s:SV),args[i]? = some x→rU[i]? = some s→cS w ρ env (a.eval x) s) (h:aF w0 X w a σ env ρ) (hd:∀d,o.dst=some d→d<σ.tmps.length)
  (hb:bD P env ix r.bind):(r.cm=none∧ea P o a w w0 X (σ.put o.dst r.val) env)∨∃ob z,r.cm=some (ob,z)∧ea P o a w w0 X ((σ.setObj ob (some z)).put o.dst r.val) env:=by
 refine xq (vals:=args.map a.eval) (fun fn hf h1 h2=>?_) hl (by simpa using hlen) (fun i v s hv hs=>?_) h hd hb
 ·unfold execOp;simp only[ho,resolve,hc,Deferred.ofValue,invoke,A0n,A0r,A0h,callFunc,D0A,hf,h1,h2,A0S,B0n];simp
 ·simp only[D0u,A0a] at hv;obtain⟨x,fm,rfl⟩:=hv;exact hx i x s fm hs
def GK (P:Program)(t:TypeId)(name:String):Option FuncId:=
 match P.info? t,P.underlying t with
 | some i,some (.pointer _)=>(match i.methods.find? (·.name==name) with
  | some m=>if m.path.isEmpty=true then(match m.func with
   | some (f,true)=>some f
   | _=>none) else none
  | none=>none)
 | _,_=>none
def Be (P:Program)(t:TypeId)(name:String):Option (FuncId×Nat):=
 match P.info? t,P.underlying t with
 | some i,some (.pointer e)=>(match i.methods.find? (·.name==name) with
  | some m=>if m.path.isEmpty=true∧jH P e=some false then(match m.func with
   | some (f,false)=>(r8 P e).map fun n=>(f,n)
   | _=>none) else none
  | none=>none)
 | _,_=>none
def XM (P:Program)(o:Oper)(rv:SV)(name:String)(args:List SV)(obj:Nat→Option aY)(ix:Nat):Option cK:=
 match obj br,o.dst,rv.toE with
 | some (.store cf _),some d,some r'=>(cf.CY.lookup d).bind fun t=>match GK P t name with
  | some f=>qf P f (.e (.m4 (.iw t) r' .nil .nil .nil) false :: args) obj ix
  | none=>(Be P t name).bind fun p=>qf P p.1 (.e (.ld false p.2 (hOf obj) (.m4 (.iw t) r' .nil .nil .nil)) false :: args) obj ix
 | _,_,_=>none
theorem LU {t:TypeId}{f:FuncId}{v:Value}{name:String}(h:GK P t name=some f)(n:Nat):(method (n+1) t v name).run P w=.ok (f,v) w:=by
 unfold GK at h;split at h
 ·rename_i i e hi hu;split at h
  ·rename_i m hm;split at h
   ·rename_i hp;split at h
    ·rename_i hf;cases h;have hp':m.path=#[]:=by simpa using hp
     simp[method,typeInfo,hi,hm,hp',follow,hf,receiverAt,A0G hu,Place.get]
    ·cases h
   ·cases h
  ·cases h
 ·cases h
theorem ID {xt:TypeId}{a:Addr}{s m:String}:(Builtin.ssaWrapNilChk_ #[xt] xt #[.pointer (some a),strVal s,strVal m]).run P w=.ok (.pointer (some a)) w:=rfl
theorem IE {t e:TypeId}{f:FuncId}{m:Nat}{b off:Nat}{u:Value}{name:String}(h:Be P t name=some (f,m))(hu:P.underlying t=some (.pointer e))(hl:(loadVar e ⟨b,off,none⟩).run P w=.ok u w)(n:Nat):(method (n+1) t (.pointer (some ⟨b,off,none⟩)) name).run P w=.ok (f,u) w:=by
 unfold Be at h;split at h
 ·rename_i i e' hi kK;rw[hu] at kK;cases kK;split at h
  ·rename_i m' hm;split at h
   ·rename_i hp;split at h
    ·rename_i f' hf;obtain⟨k,_,hk⟩:=A0a.1 h;cases hk;have hp':m'.path=#[]:=by simpa using hp.1
     simp[method,typeInfo,hi,hm,hp',follow,hf,receiverAt,A0G hu,Place.get,ID,asAddr,hl]
    ·cases h
   ·cases h
  ·cases h
 ·cases h
theorem Jx {f:FuncId}{rU:List SV}{obj:Nat→Option aY}{ix:Nat}{r:cK}(hl:qf P f rU obj ix=some r)(hb:bD P env ix r.bind):∃xs ds,toEAll rU=some xs∧aA env xs=some ds:=by
 have nil:bq env []:=by intro p hp;cases hp
 unfold qf at hl;split at hl
 ·split at hl
  ·cases hl
  ·split at hl
   ·rename_i rs xs cf hE kf Hi cO;refine⟨xs,?_⟩;split at hl
    ·cases hl;obtain⟨d,_,Aj⟩:=hb;obtain⟨st,ds,_,bX,_⟩:=Aj nil;exact⟨ds,Hi,(rO bX).1⟩
    ·split at hl
     ·split at hl
      ·cases hl
      ·cases hl;obtain⟨st,d,h',_,_,Aj,_⟩:=hb;obtain⟨ds,bX,_⟩:=Aj nil;exact⟨ds,Hi,bX⟩
     ·cases hl;obtain⟨d,_,Aj⟩:=hb;obtain⟨st,ds,_,bX,_⟩:=Aj nil;exact⟨ds,Hi,bX⟩
   ·cases hl
 ·cases hl
theorem Mq {o:Oper} {rc:Operand} {name:String} {args:Array Operand} {ts:Array TypeId} {bh:Operand→SV} {ix:Nat} {r:cK} (ho:o.op=.call { callee:=.invoke rc name,args:=args,argTypes:=ts }) (hv:∀x,cS w ρ env (a.eval x) (bh x))
  (hl:XM P o (bh rc) name (args.toList.map bh) σ.obj ix=some r) (h:aF w0 X w a σ env ρ) (hd:∀d,o.dst=some d→d<σ.tmps.length) (hb:bD P env ix r.bind) :
  (r.cm=none∧ea P o a w w0 X (σ.put o.dst r.val) env)∨∃ob z,r.cm=some (ob,z)∧ea P o a w w0 X ((σ.setObj ob (some z)).put o.dst r.val) env:=by
 unfold XM at hl;split at hl
 ·rename_i cf hh d r' cO gB kg;obtain⟨t,ht,hl⟩:=A0b.1 hl;obtain⟨dr,hdr,RA⟩:=SV.toE_rd kg (hv rc);have Ub:∀{d0:D},D.iw t dr=some d0→∃v,a.eval rc=.iface t v∧bA w ρ.S v d0:=by
   intro d0 J3;have aoo:dr=.iW t d0:=by
    unfold D.iw at J3;split at J3
    ·split at J3
     ·rename_i e;cases J3;rw[e]
     ·cases J3
    ·cases J3
   subst aoo;generalize a.eval rc=u at RA;cases RA;exact⟨_,rfl,by assumption⟩
  have fin:∀{f:FuncId} {x0:E} {v u:Value} {d1:D},a.eval rc=.iface t v→(∀n,(method (n+1) t v name).run P w=.ok (f,u) w)→x0.eval env=some d1→bA w ρ.S u d1→qf P f (.e x0 false :: args.toList.map bh) σ.obj ix=some r→(r.cm=none∧ea P o a w w0 X (σ.put o.dst r.val) env)∨∃ob z,r.cm=some (ob,z)∧ea P o a w w0 X ((σ.setObj ob (some z)).put o.dst r.val) env:=by
   intro f x0 v u d1 T_ xF ZV OM hl;refine xq (vals:=#[u]++args.map a.eval) (fun fn vH h1 h2=>?_) hl (by simp;omega) (fun i u' s hu hs=>?_) h hd hb
   ·obtain⟨n,hn⟩:∃n,P.types.size+Made.depth=n+1:=⟨P.types.size+Made.depth-1,by simp[Made.depth]⟩;have hm:=xF n;have Ht:(#[Value.iface t v]++args.map a.eval).extract 1 (#[Value.iface t v]++args.map a.eval).size=args.map a.eval:=by simp
    have h0:(#[Value.iface t v]++args.map a.eval)[0]? = some (.iface t v):=by rw[C0i (by simp)];rfl
    unfold execOp;simp only[ho,resolve,invoke,A0n,A0r,A0h,T_,h0,callMethod,Ht,D0A,hn,hm,callFunc,vH,h1,h2,A0S,B0n]
   ·cases i with
    | zero=>
     rw[C0i (by simp)] at hu;simp at hu hs;subst hu hs;exact .e ZV OM (by simp)
    | succ i=>
     rw[Array.getElem?_append_right (by simp)] at hu;simp only[B0I,B0a,B0C,A0Q,Nat.add_sub_cancel,D0u,A0a,B0B,A0w] at hu hs;obtain⟨x,hx,rfl⟩:=hu;obtain⟨y,hy,rfl⟩:=hs;rw[B0c,hx] at hy;cases hy;exact hv x
  have ah7:∀{f:FuncId} {x0:E},qf P f (.e x0 false :: args.toList.map bh) σ.obj ix=some r→∃d1,x0.eval env=some d1:=by
   intro f x0 hl;obtain⟨xs,ds,Hi,bX⟩:=Jx hl hb;obtain⟨ys,rfl⟩:∃ys,xs=x0 :: ys:=by
    simp only[toEAll,SV.toE] at Hi;split at Hi
    ·rename_i h1 h2;cases h1;cases Hi;exact⟨_,rfl⟩
    ·cases Hi
   simp only[aA] at bX;obtain⟨d0,h1,_⟩:=A0b.1 bX;exact⟨d0,h1⟩
  split at hl
  ·rename_i f hf;obtain⟨d0,Yo⟩:=ah7 hl;have J3:D.iw t dr=some d0:=by simpa only[E.eval,hdr,A0d,D.m4] using Yo
   obtain⟨v,T_,hvr⟩:=Ub J3;exact fin T_ (fun n=>LU hf n) Yo hvr hl
  ·obtain⟨⟨f,m⟩,hf,hl⟩:=A0b.1 hl;obtain⟨d1,J2⟩:=ah7 hl;have aia:=J2;simp only[E.eval,A0b] at aia;obtain⟨dh,hhe,d0,Yo,QA⟩:=aia;obtain⟨a1,ha1,_,_,_,_,_,_,J3⟩:=Yo;rw[hdr] at ha1;cases ha1;have J3:D.iw t dr=some d0:=J3;obtain⟨v,T_,hvr⟩:=Ub J3;obtain⟨bs,rfl,hst⟩:=J7 h hhe;obtain⟨e,hu,hg,hn⟩:∃e,P.underlying t=some (.pointer e)∧jH P e=some false∧r8 P e=some m:=by
    unfold Be at hf;split at hf
    ·rename_i i e' hi kK;split at hf
     ·split at hf
      ·rename_i hp;split at hf
       ·obtain⟨k,Ln,hk⟩:=A0a.1 hf;cases hk;exact⟨_,kK,hp.2,Ln⟩
       ·cases hf
      ·cases hf
     ·cases hf
    ·cases hf
   obtain⟨b,off,u,gQ,bt,Hp,_⟩:=G0 hg hn hvr hst QA;subst gQ;exact fin T_ (fun n=>IE hf hu bt n) J2 Hp hl
 ·cases hl
theorem YA {α:Type}{us vs ws:List α}{β:Type}{as bs cs:List β}{R:α→β→Prop}(h1:us.length=as.length)(h2:vs.length=bs.length)(g1:∀(i:Nat) u a,us[i]? = some u→as[i]? = some a→R u a)(g2:∀(i:Nat) u a,vs[i]? = some u→bs[i]? = some a→R u a)(g3:∀(i:Nat) u a,ws[i]? = some u→cs[i]? = some a→R u a) :
  ∀(i:Nat) u a,(us++vs++ws)[i]? = some u→(as++bs++cs)[i]? = some a→R u a:=by
 intro i u a hu ha;rw[A0A] at hu ha;rcases A0U i us.length with h | h
 ·rw[A0g h] at hu;rw[A0g (by omega)] at ha;exact g1 i u a hu ha
 ·rw[A0o h] at hu;rw[A0o (by omega)] at ha;rw[←h1] at ha;rcases A0U (i-us.length) vs.length with h' | h'
  ·rw[A0g h'] at hu;rw[A0g (by omega)] at ha;exact g2 _ u a hu ha
  ·rw[A0o h'] at hu;rw[A0o (by omega)] at ha;rw[←h2] at ha;exact g3 _ u a hu ha
theorem G1 {o:Oper} {c:Operand} {xe:E} {sb:Bool} {args:Array Operand} {ts:Array TypeId} {rU:List SV} {ix:Nat} {r:cK} (ho:o.op=.call { callee:=.value c,args:=args,argTypes:=ts }) (hc:cS w ρ env (a.eval c) (.e xe sb))
  (hl:G2 P xe rU o σ.obj ix=some r) (hlen:args.size=rU.length) (hx:∀(i:Nat) (x:Operand) (s:SV),args[i]? = some x→rU[i]? = some s→cS w ρ env (a.eval x) s) (h:aF w0 X w a σ env ρ) (hd:∀d,o.dst=some d→d<σ.tmps.length)
  (hb:bD P env ix r.bind):(r.cm=none∧ea P o a w w0 X (σ.put o.dst r.val) env)∨∃ob z,r.cm=some (ob,z)∧ea P o a w w0 X ((σ.setObj ob (some z)).put o.dst r.val) env:=by
 unfold G2 at hl;split at hl
 ·rename_i rs xs cf hE kf Hi cO;obtain⟨bs,gr,hst,_⟩:=h.cT _ _ cO;obtain⟨dc,FF,JM,_⟩:=hc.jL;obtain⟨kL,nk,fR,bO⟩:=toEAll_rd (vs:=(args.map a.eval).toList) Hi (by simpa using hlen) (fun i v s hv hs=>by
   simp only[C0g,A0w,A0a] at hv;obtain⟨x,fm,rfl⟩:=hv;exact hx i x s (by simpa using fm) hs)
  have enter:∀{f:FuncId} {us cs:List D},dc=.fn f us cs→bL P f=true→∃uv cv:Array Value,(execOp a.eval o).run P w=.ok (.enter f (uv++args.map a.eval++cv)) w∧uv.size=us.length∧cv.size=cs.length ∧
    (∀(i:Nat) (v:Value) (d:D),uv[i]? = some v→us[i]? = some d→bA w ρ.S v d)∧∀(i:Nat) (v:Value) (d:D),cv[i]? = some v→cs[i]? = some d→bA w ρ.S v d:=by
   intro f us cs he dU;subst he;generalize hv:a.eval c=v at JM;cases JM with
   | @fn _ uv cv _ _ h1 h2 h3 h4=>
    refine⟨uv,cv,?_,h1,h2,h3,h4⟩;unfold bL at dU;split at dU
    ·rename_i fn hf;simp only[A0f,B0j,C0o] at dU;have Yr:fn.body.isNone=false:=by
      cases hb:fn.body with
      | none=>exact absurd hb dU.2
      | some _=>rfl
     unfold execOp;simp only[ho,resolve,hv,Deferred.ofValue,invoke,A0n,A0r,A0h,callFunc,D0A,hf,dU.1,Yr,A0S,B0n]
    ·cases dU
  split at hl
  ·split at hl
   ·cases hl
   ·rename_i fQ;cases hl;refine .inr ⟨br,_,rfl,fun Q=>?_⟩;obtain⟨st,d,h',yq,cA,Aj,_⟩:=hb;obtain⟨xd,ds,Fw,bX,og,dQ⟩:=Aj (by intro p hp;cases hp);rw[FF] at Fw;cases Fw;rw[gr] at yq;cases yq;rw[bX] at nk;cases nk;unfold yg at og;split at og
    ·rename_i f us cs;obtain⟨dU,gz⟩:=og;obtain⟨uv,cv,bt,Hj,UY,OM,QG⟩:=enter rfl dU;rw[bt];refine⟨fun e=>(by cases e),callsIn_wide.2 ?_⟩;refine(gz w ρ.S ρ.az bs _ rfl hst (h.lY cO) (gj h cO) h.cells (by simp at fR;simp[Hj,UY,fR]) (fun i v x hv fm=>YA (us:=uv.toList) (vs:=(args.map a.eval).toList) (ws:=cv.toList) (R:=fun v x=>bA w ρ.S v x) (by simpa using Hj) fR (fun i u x hu hx=>OM i u x (by simpa using hu) hx) bO (fun i u x hu hx=>QG i u x (by simpa using hu) hx) i v x (by rw[←B0X,←B0X,B0c];exact hv) fm)).mono ?_
     rintro e w' ⟨v,S',bJ,bs',⟨rfl,hr⟩,rfl,dP,hk,hS,nZ,ht,fZ,bV,uT,pU,H8,J6⟩
     have bg:=h.gJ (x':=.av 1 (.sym ix)) cO (by simpa using fQ) (by simp only[E.eval,cA];rfl) dP hk hS nZ ht fZ bV uT pU H8 J6;exact⟨_,bg.put (by rw[ah.aP];exact hd) (jS (by simp only[E.eval,cA];rfl) hr dQ)⟩
    ·rename_i l rec sl cr;obtain⟨rfl,gz⟩:=og;obtain⟨l',f,tmps,assign,body,Qt,bt,C5⟩:=gz w ρ.S ρ.az bs (args.map a.eval) (a.eval c) rfl hst (h.lY cO) (gj h cO) h.cells JM (by simpa using fR) (fun i v x hv fm=>bO i v x (by simpa using hv) fm);have Uj:(execOp a.eval o).run P w=.ok (.round l' f tmps assign body) w:=by unfold execOp;simp only[ho,resolve,Qt,Deferred.ofValue,invoke,A0n,A0r,A0h];simpa using bt
     rw[Uj];refine⟨fun e=>(by cases e),C5.mono ?_⟩
     rintro e w' ⟨S',bJ,bs',rfl,rfl,dP,hk,hS,nZ,ht,fZ,bV,uT,pU,H8,J6⟩
     have bg:=h.gJ (x':=.av 1 (.sym ix)) cO (by simpa using fQ) (by simp only[E.eval,cA];rfl) dP hk hS nZ ht fZ bV uT pU H8 J6;exact⟨_,bg.put (by rw[ah.aP];exact hd) (jS (by simp only[E.eval,cA];rfl) (.v rfl) dQ)⟩
    ·rename_i l rec sl cr;obtain⟨b,rfl,gz⟩:=og;obtain⟨l',f,tmps,assign,body,Qt,bt,C5⟩:=gz w ρ.S ρ.az bs (args.map a.eval) (a.eval c) rfl hst (h.lY cO) (gj h cO) h.cells JM (by simpa using fR) (fun i v x hv fm=>bO i v x (by simpa using hv) fm);have Uj:(execOp a.eval o).run P w=.ok (.round l' f tmps assign body) w:=by unfold execOp;simp only[ho,resolve,Qt,Deferred.ofValue,invoke,A0n,A0r,A0h];simpa using bt
     rw[Uj];refine⟨fun e=>(by cases e),C5.mono ?_⟩
     rintro e w' ⟨S',bJ,bs',rfl,rfl,dP,hk,hS,nZ,ht,fZ,bV,uT,pU,H8,J6⟩
     have bg:=h.gJ (x':=.av 1 (.sym ix)) cO (by simpa using fQ) (by simp only[E.eval,cA];rfl) dP hk hS nZ ht fZ bV uT pU H8 J6;exact⟨_,bg.put (by rw[ah.aP];exact hd) (jS (by simp only[E.eval,cA];rfl) (.v rfl) dQ)⟩
    ·exact og.elim
  ·cases hl;refine .inl ⟨rfl,fun Q=>?_⟩;obtain⟨d,cA,Aj⟩:=hb;obtain⟨f,us,cs,st,ds,Fw,dU,yq,bX,gz,dQ⟩:=Aj (by intro p hp;cases hp);rw[FF] at Fw;cases Fw;obtain⟨uv,cv,bt,Hj,UY,OM,QG⟩:=enter rfl dU;rw[gr] at yq;cases yq;rw[bX] at nk;cases nk;rw[bt];refine⟨fun e=>(by cases e),callsIn_wide.2 ?_⟩;refine(gz w ρ.S ρ.az bs _ rfl hst (h.lY cO) (gj h cO) h.cells (by simp at fR;simp[Hj,UY,fR]) (fun i v x hv fm=>YA (us:=uv.toList) (vs:=(args.map a.eval).toList) (ws:=cv.toList) (R:=fun v x=>bA w ρ.S v x) (by simpa using Hj) fR (fun i u x hu hx=>OM i u x (by simpa using hu) hx) bO (fun i u x hu hx=>QG i u x (by simpa using hu) hx) i v x (by rw[←B0X,←B0X,B0c];exact hv) fm)).mono ?_
   rintro e w' ⟨v,S',⟨rfl,hr⟩,vJ,sr,HW,oH,Bo⟩
   exact⟨_,(h.behind vJ sr HW oH Bo).put hd (jS (by simp only[E.eval,cA]) hr dQ)⟩
 ·cases hl
theorem Jm {o:Oper} {fn:Fn} {first cr:Array Operand} {fs cs:List SV} {ix:Nat} {r:cK} (ho:o.op=.makeFunc fn first cr) (hl:Tv fn fs cs ix=some r) (fG:first.size=fs.length) (dU:cr.size=cs.length)
  (hf:∀(i:Nat) (x:Operand) (s:SV),first[i]? = some x→fs[i]? = some s→cS w ρ env (a.eval x) s) (hc:∀(i:Nat) (x:Operand) (s:SV),cr[i]? = some x→cs[i]? = some s→cS w ρ env (a.eval x) s)
  (h:aF w0 X w a σ env ρ) (hd:∀d,o.dst=some d→d<σ.tmps.length) (hb:bD P env ix r.bind):r.cm=none∧ea P o a w w0 X (σ.put o.dst r.val) env:=by
 unfold Tv at hl;split at hl
 ·rename_i f x y hx hy;cases hl;have go:∀{os:Array Operand} {ss:List SV} {x:E},SV.toTs ss=some x→os.size=ss.length→(∀(i:Nat) (x:Operand) (s:SV),os[i]? = some x→ss[i]? = some s→cS w ρ env (a.eval x) s) →
    ∃ds,x.eval env=some (.a_ ds)∧(os.map a.eval).size=ds.length∧∀(i:Nat) (v:Value) (d:D),(os.map a.eval)[i]? = some v→ds[i]? = some d→bA w ρ.S v d:=by
   intro os ss x hx hl hh;obtain⟨ds,h1,h2,h3⟩:=SV.toTs_rd (w:=w) (ρ:=ρ) (env:=env) (vs:=(os.map a.eval).toList) hx (by simpa using hl) (fun i v c hv hc=>by
    simp only[C0g,A0w,A0a] at hv;obtain⟨z,hz,rfl⟩:=hv;exact hh i z c (by simpa using hz) hc)
   exact⟨ds,h1,by simpa using h2,fun i v d hv hd=>h3 i v d (by simpa using hv) hd⟩
  obtain⟨us,h1,h2,h3⟩:=go hx fG hf;obtain⟨es,h4,h5,h6⟩:=go hy dU hc;obtain⟨d,he,cA⟩:=hb;simp only[E.eval,h1,h4,A0d,D.b_] at he;cases he;refine⟨rfl,bl h hd (v:=.func (.func f) (first.map a.eval) (cr.map a.eval)) ?_ (.e (d:=.fn f us es) (by simp[E.eval,cA]) (.fn h2 h5 h3 h6) fun _=>rfl)⟩;unfold execOp;simp[ho,Instr.makeFunc]
 ·cases hl
end
end
end
section
noncomputable section
def Wd (p q:Nat×Nat):Bool:=decide (p.1+p.2≤q.1)||decide (q.1+q.2≤p.1)
def Ea (place:Nat→Option (Nat×Nat))(p:Nat×Value)(k:Nat):Prop:=∃off size,place p.1=some (off,size)∧off≤k∧k<off+size
theorem Bs {place : Nat → Option (Nat × Nat)} : ∀ (parts : List (Nat × Value)) (cells : Array Value), (∀ p, p ∈ parts → ∃ off, place p.1 = some (off, p.2.cells.size) ∧ off + p.2.cells.size ≤ cells.size) →
  ∃ r, Instr.fill place cells parts = some r ∧ r.size = cells.size ∧ ∀ k, k < cells.size →
   ((∀ p, p ∈ parts → ¬ Ea place p k) → r[k]? = cells[k]?) ∧
   (∀ p off, p ∈ parts → place p.1 = some (off, p.2.cells.size) → off ≤ k → k < off + p.2.cells.size → (∀ q, q ∈ parts → q ≠ p → ¬ Ea place q k) → r[k]? = p.2.cells[k - off]?)
 | [], cells, _ => ⟨cells, rfl, rfl, fun k _ => ⟨fun _ => rfl, fun p off hp => by cases hp⟩⟩
 | (i, v) :: parts, cells, h => by
  obtain ⟨off, mR, hle⟩ := h (i, v) (by simp);obtain ⟨g1, g2⟩ := Great.foldl_set off v.cells.toList 0 cells;obtain ⟨r, hr, bV, hk⟩ := Bs (place := place) parts ((v.cells.toList.zipIdx 0).foldl (fun cs (x : Value × Nat) => cs.setIfInBounds (off + x.2) x.1) cells) (fun p hp => by
   obtain ⟨o, h1, h2⟩ := h p (by simp [hp]);exact ⟨o, h1, by rw [g1]; exact h2⟩)
  refine ⟨r, ?_, by rw [bV, g1], fun k hkc => ?_⟩
  ·unfold Instr.fill;simp only [mR];simp only at hle;rw [A0B (by simp; omega)];rw [← hr];congr 1;rw [← Array.foldl_toList, Array.toList_zipIdx]
  ·obtain ⟨Ln, Ef⟩ := hk k (by rw [g1]; exact hkc);have hg := g2 k;simp only [D0H, A0W] at hg;refine ⟨fun Lm => ?_, fun p o hp hpo h1 h2 bQ => ?_⟩
   ·rw [Ln fun p hp => Lm p (by simp [hp]), hg, A0B fun hc => Lm (i, v) (by simp) ⟨off, _, mR, hc.1, hc.2.1⟩]
   ·rcases A0E.1 hp with rfl | hp'
    ·by_cases nh : (i, v) ∈ parts
     ·exact Ef (i, v) o nh hpo h1 h2 fun q hq Z3 => bQ q (by simp [hq]) Z3
     ·rw [Ln fun q hq => bQ q (by simp [hq]) fun e => nh (e ▸ hq), hg];simp only at hpo mR h2;rw [mR] at hpo;cases hpo;rw [A0z ⟨h1, h2, hkc⟩];simp
    ·exact Ef p o hp' hpo h1 h2 fun q hq Z3 => bQ q (by simp [hq]) Z3
theorem iD {α:Type}:∀{l:List (Nat×α)} {p q:Nat×α},(l.map (·.1)).Nodup→p∈l→q∈l→p.1=q.1→p=q
 | [],p,q,_,h,_,_=>by cases h
 | a :: l,p,q,hn,hp,hq,he=>by
  simp only[B0p,E0x] at hn;rcases A0E.1 hp with rfl | hp' <;> rcases A0E.1 hq with rfl | HY
  ·rfl
  ·exact(hn.1 (A0F.2 ⟨q,HY,he.symm⟩)).elim
  ·exact(hn.1 (A0F.2 ⟨p,hp',he⟩)).elim
  ·exact iD hn.2 hp' HY he
def rV (obj:Nat→Option aY):SV→Option SV
 | .e x true=>some (.e x true)
 | .mE o=>(match obj o with | some (.row _ _)=>some (.mE o) | _=>none)
 | .addr o f=>some (.addr o f)
 | .func (.func f) cs=>some (.func (.func f) cs)
 | _=>none
def IT (z:Value)(parts:List (Nat×Option SV))(i:Nat):Option SV:=
 match parts.find? (fun p=>p.1==i) with
 | some p=>p.2
 | none=>(z.cells[i]?).bind fun v=>(D.uI v).bind fun d=>if d.one=true then some (.e (.const d) true) else none
def Cd (z:Value)(parts:List (Nat×Option SV)):Nat→Option (List SV)
 | 0=>some []
 | n+1=>(Cd z parts n).bind fun l=>(IT z parts n).map fun s=>l++[s]
def Vg (P:Program)(t:TypeId)(n:Nat):Bool:=
 match P.underlying t with
 | some (.struct fields)=>decide (fields.toList.mapM (fun f=>(P.info? f.type).map fun i=>(f.offset,i.size))=some ((List.range n).map fun i=>(i,1)))
 | some (.array _ e)=>(match P.info? e with | some ie=>decide (ie.size=1) | none=>false)
 | _=>false
def Bl (P:Program)(t:TypeId)(parts:List (Nat×Operand))(bh:Operand→SV)(obj:Nat→Option aY):Option cK:=
 match P.info? t with
 | some it=>(match it.zero with
  | some z=>if Vg P t z.cells.size=true∧(parts.map (·.1)).Nodup∧parts.all (fun p=>decide (p.1<z.cells.size))=true then(Cd z (parts.map fun p=>(p.1,rV obj (bh p.2))) z.cells.size).map fun l=>{ val:=.agg l } else none
  | none=>none)
 | none=>none
section
variable {P:Program} {w w0:World} {X:jN} {a:Act} {σ:ah} {env:List D} {ρ:dD}
theorem Cc {z:Value}{parts:List (Nat×Option SV)}:∀{n:Nat} {l:List SV},Cd z parts n=some l→l.length=n∧∀i,i<n→∃s,l[i]? = some s∧IT z parts i=some s
 | 0,l,h=>by simp only[Cd,A0x] at h;subst h;exact⟨rfl,fun i hi=>by omega⟩
 | n+1,l,h=>by
  simp only[Cd,A0b,A0a] at h;obtain⟨l',h1,s,h2,rfl⟩:=h;obtain⟨g1,g2⟩:=Cc h1;refine⟨by simp[g1],fun i hi=>?_⟩
  by_cases nh:i<n
  ·obtain⟨s',k1,k2⟩:=g2 i nh;exact⟨s',by rw[A0g (by omega)];exact k1,k2⟩
  ·obtain rfl:i=n:=by omega
   exact⟨s,by rw[A0o (by omega),g1];simp,h2⟩
theorem IV {sv s:SV}{v:Value}(h:rV σ.obj sv=some s)(hr:cS w ρ env v sv)(fC:∀o y,σ.obj o=some y→gP w ρ env o y):cS w ρ env v s∧v.oneCell'=true:=by
 unfold rV at h;split at h
 ·cases h;obtain⟨d,_,h2,h3⟩:=hr.jL;exact⟨hr,h2.one (h3 rfl)⟩
 ·rename_i o;split at h
  ·rename_i x sz ho;cases h;obtain⟨vs,ty,es,_,_,_,_,_,fB,_⟩:=fC o _ ho;refine⟨hr,?_⟩;rw[hr.qM,fB];rfl
  ·cases h
 ·cases h;refine⟨hr,?_⟩;rw[hr.j6];rfl
 ·cases h;obtain⟨vs,hv,_⟩:=hr.oh;refine⟨hr,?_⟩;rw[hv];rfl
 ·cases h
theorem Eu {o:Oper} {t:TypeId} {parts:Array (Nat×Operand)} {bh:Operand→SV} {r:cK} (ho:o.op=.build t parts) (hv:∀x,cS w ρ env (a.eval x) (bh x)) (hl:Bl P t parts.toList bh σ.obj=some r) (h:aF w0 X w a σ env ρ)
  (hd:∀d,o.dst=some d→d<σ.tmps.length):r.cm=none∧ea P o a w w0 X (σ.put o.dst r.val) env:=by
 unfold Bl at hl;split at hl
 ·rename_i it UG;split at hl
  ·rename_i z hz;split at hl
   ·rename_i hc;obtain⟨qo,oJ,nh⟩:=hc;obtain⟨l,iH,rfl⟩:=A0a.1 hl;refine⟨rfl,?_⟩;obtain⟨Hs,jh⟩:=Cc iH;have hlt:∀p,p∈parts.toList→p.1<z.cells.size:=fun p hp=>by simpa using A0C.1 nh p hp
    have FA:∀p,p∈parts.toList→∃s,IT z (parts.toList.map fun p=>(p.1,rV σ.obj (bh p.2))) p.1=some s∧cS w ρ env (a.eval p.2) s∧(a.eval p.2).oneCell'=true:=by
     intro p hp;obtain⟨s,_,hs⟩:=jh p.1 (hlt p hp);refine⟨s,hs,?_⟩;unfold IT at hs;split at hs
     ·rename_i q hq;have iK:=B0G hq;have hqi:=D0h hq;simp only[B0K] at hqi;obtain⟨p0,Uo,rfl⟩:=A0F.1 iK;have:=iD oJ Uo hp hqi;subst this;exact IV hs (hv _) h.cT
     ·rename_i Ah;have:=D0t.1 Ah (p.1,rV σ.obj (bh p.2)) (A0F.2 ⟨p,hp,rfl⟩);simp at this
    have mc:∀p,p∈parts.toList→(a.eval p.2).cells=#[a.eval p.2]:=fun p hp=>by have:=(FA p hp).choose_spec.2.2;cases hv:a.eval p.2 <;> first | rfl | (rw[hv] at this;simp[Value.oneCell'] at this)
    obtain⟨place,MO,Di⟩:∃place:Nat→Option (Nat×Nat),(∀i,i<z.cells.size→place i=some (i,1))∧∀vs,P.built t vs=Instr.fill place z.cells vs:=by
     unfold Vg at qo;split at qo
     ·rename_i fields hu;simp only[A0t] at qo;refine⟨fun i=>((List.range z.cells.size).map fun i=>(i,1)).toArray[i]?,fun i hi=>by simp[hi],fun vs=>?_⟩;unfold Program.built;simp only[UG,hu,hz,qo]
     ·rename_i n e hu;split at qo
      ·rename_i ie hie;simp only[A0t] at qo;refine⟨fun i=>some (i*ie.size,ie.size),fun i hi=>by simp[qo],fun vs=>?_⟩;unfold Program.built;simp only[UG,hu,hz,hie]
      ·cases qo
     ·cases qo
    obtain⟨r,hr,kf,xD⟩:=Bs (place:=place) (parts.toList.map fun p=>(p.1,a.eval p.2)) z.cells (fun p hp=>by
     obtain⟨q,hq,rfl⟩:=A0F.1 hp;refine⟨q.1,?_,?_⟩
     ·rw[MO _ (hlt q hq),mc q hq];rfl
     ·have:=hlt q hq;rw[mc q hq];simp;omega)
    have QH:∀p,p∈parts.toList→∀k,Ea place (p.1,a.eval p.2) k→k=p.1:=by
     rintro p hp k ⟨off,size,h9,zl,Lp⟩
     simp only[MO _ (hlt p hp),A0x,Prod.mk.injEq] at h9;obtain⟨rfl,rfl⟩:=h9;omega
    have jK:∀k,k<z.cells.size→∃v s,r[k]? = some v∧l[k]? = some s∧cS w ρ env v s∧v.oneCell'=true:=by
     intro k hk;obtain⟨s,sr,oH⟩:=jh k hk
     by_cases hp:∃p,p∈parts.toList∧p.1=k
     ·obtain⟨p,hp,rfl⟩:=hp;obtain⟨s',h1,h2,h3⟩:=FA p hp;rw[oH] at h1;cases h1;refine⟨a.eval p.2,s,?_,sr,h2,h3⟩;have:=(xD p.1 hk).2 (p.1,a.eval p.2) p.1 (A0F.2 ⟨p,hp,rfl⟩) (by rw[MO _ hk,mc p hp];rfl) (A0m _) (by rw[mc p hp];simp) fun q hq bQ Ej=>by obtain⟨p',hp',rfl⟩:=A0F.1 hq;have:=QH p' hp' _ Ej;exact bQ (by rw[iD oJ hp' hp this.symm])
      rw[this,mc p hp];simp
     ·have uS:∀p,p∈parts.toList→p.1≠k:=fun p hpm e=>hp ⟨p,hpm,e⟩;have:=(xD k hk).1 fun q hq Ej=>by obtain⟨p',hp',rfl⟩:=A0F.1 hq;exact uS p' hp' (QH p' hp' _ Ej).symm
      unfold IT at oH;split at oH
      ·rename_i q hq;have iK:=B0G hq;have hqi:=D0h hq;simp only[B0K] at hqi;obtain⟨p0,Uo,rfl⟩:=A0F.1 iK;exact absurd hqi (uS p0 Uo)
      ·obtain⟨v,JI,oH⟩:=A0b.1 oH;obtain⟨d,J2,oH⟩:=A0b.1 oH;split at oH
       ·rename_i cV;cases oH;have bO:bA w ρ.S v d:=D.jT J2;exact⟨v,_,this.trans JI,sr,.e rfl bO fun _=>cV,bO.one cV⟩
       ·cases oH
    have wh:P.built t (parts.map fun(x:Nat×Operand)=>(x.1,a.eval x.2)).toList=some r:=by rw[Di,C0g];exact hr
    have bt:(execOp a.eval o).run P w=.ok (.value (.agg r)) w:=by unfold execOp;simp only[ho,A0n,run_build w t _ r wh,A0h,A0r]
    refine bl h hd bt (.agg (by rw[kf,Hs]) (fun k v gQ=>?_) fun k v c gQ hc=>?_)
    ·obtain⟨v',s,h1,_,_,h4⟩:=jK k (by rw[←kf];exact(A0l.1 gQ).1);rw[gQ] at h1;cases h1;exact h4
    ·obtain⟨v',s,h1,h2,h3,_⟩:=jK k (by rw[←kf];exact(A0l.1 gQ).1);rw[gQ] at h1;rw[hc] at h2;cases h1;cases h2;exact h3
   ·cases hl
  ·cases hl
 ·cases hl
end
end
end
section
noncomputable section
def E.same:E→E→Bool
 | .sym a,.sym b=>decide (a=b)
 | .const a,.const b=>D.same a b
 | .bin o k a b,.bin o' k' a' b'=>decide (o=o')&&decide (k=k')&&a.same a'&&b.same b'
 | .un o a,.un o' a'=>decide (o=o')&&a.same a'
 | .conv k a,.conv k' a'=>decide (k=k')&&a.same a'
 | .bI a,.bI a'=>a.same a'
 | .gy a,.gy a'=>a.same a'
 | .aV a,.aV a'=>a.same a'
 | .cell i a,.cell i' a'=>decide (i=i')&&a.same a'
 | .cells i n a,.cells i' n' a'=>decide (i=i')&&decide (n=n')&&a.same a'
 | .bE n a,.bE n' a'=>decide (n=n')&&a.same a'
 | .idx a b,.idx a' b'=>a.same a'&&b.same b'
 | .nil,.nil=>true
 | .cons a b,.cons a' b'=>a.same a'&&b.same b'
 | .app n m a b,.app n' m' a' b'=>decide (n=n')&&decide (m=m')&&a.same a'&&b.same b'
 | .bz a b,.bz a' b'=>a.same a'&&b.same b'
 | .cw a,.cw a'=>a.same a'
 | .b_ f a b,.b_ f' a' b'=>decide (f=f')&&a.same a'&&b.same b'
 | .sub n a b c,.sub n' a' b' c'=>decide (n=n')&&a.same a'&&b.same b'&&c.same c'
 | .set a b n c,.set a' b' n' c'=>a.same a'&&b.same b'&&decide (n=n')&&c.same c'
 | .ite a b c,.ite a' b' c'=>a.same a'&&b.same b'&&c.same c'
 | .guard a w b,.guard a' w' b'=>a.same a'&&decide (w=w')&&b.same b'
 | .ai,.ai=>true
 | .aa a b,.aa a' b'=>a.same a'&&b.same b'
 | .av i a,.av i' a'=>decide (i=i')&&a.same a'
 | .rep n a d,.rep n' a' d'=>decide (n=n')&&a.same a'&&D.same d d'
 | .deref a,.deref a'=>a.same a'
 | .iW t a,.iW t' a'=>decide (t=t')&&a.same a'
 | .mm m a b,.mm m' a' b'=>decide (m=m')&&a.same a'&&b.same b'
 | .aj k a,.aj k' a'=>decide (k=k')&&a.same a'
 | .nn a,.nn a'=>a.same a'
 | .ax n a b,.ax n' a' b'=>decide (n=n')&&a.same a'&&b.same b'
 | .ld g n a b,.ld g' n' a' b'=>decide (g=g')&&decide (n=n')&&a.same a'&&b.same b'
 | .eL n a b c,.eL n' a' b' c'=>decide (n=n')&&a.same a'&&b.same b'&&c.same c'
 | .fO e n a b,.fO e' n' a' b'=>decide (e=e')&&decide (n=n')&&a.same a'&&b.same b'
 | .aJ a,.aJ a'=>a.same a'
 | .cE e n a b,.cE e' n' a' b'=>decide (e=e')&&decide (n=n')&&a.same a'&&b.same b'
 | .cR a b,.cR a' b'=>a.same a'&&b.same b'
 | .gM e n m a b c,.gM e' n' m' a' b' c'=>decide (e=e')&&decide (n=n')&&decide (m=m')&&a.same a'&&b.same b'&&c.same c'
 | .apps a b c,.apps a' b' c'=>a.same a'&&b.same b'&&c.same c'
 | .m4 o a b c d,.m4 o' a' b' c' d'=>decide (o=o')&&a.same a'&&b.same b'&&c.same c'&&d.same d'
 | _,_=>false
theorem E.cL : ∀ {a b : E}, E.same a b = true → a = b := by
  intro a
  induction a <;> intro b h <;> cases b <;> simp only [E.same, A0f, A0t, A0S] at h <;> first
    | rfl
    | (subst h; rfl)
    | (rw [D.cL h])
    | (rename_i ih _; rw [ih h])
    | (rename_i ih _ _; obtain ⟨rfl, h2⟩ := h; rw [ih h2])
    | (rename_i ih _ _ _; obtain ⟨⟨rfl, rfl⟩, h2⟩ := h; rw [ih h2])
    | (rename_i JF EA _ _; rw [JF h.1, EA h.2])
    | (rename_i JF EA _ _ _; obtain ⟨⟨rfl, h1⟩, h2⟩ := h; rw [JF h1, EA h2])
    | (rename_i JF EA _ _ _ _; obtain ⟨⟨⟨rfl, rfl⟩, h1⟩, h2⟩ := h; rw [JF h1, EA h2])
    | (rename_i JF EA XW _ _ _; rw [JF h.1.1, EA h.1.2, XW h.2])
    | (rename_i JF EA XW _ _ _ _; obtain ⟨⟨⟨rfl, h1⟩, h2⟩, h3⟩ := h; rw [JF h1, EA h2, XW h3])
    | (rename_i JF EA XW _ _ _ _; obtain ⟨⟨⟨h1, h2⟩, rfl⟩, h3⟩ := h; rw [JF h1, EA h2, XW h3])
    | (rename_i JF EA XW _ _ _ _ _ _; obtain ⟨⟨⟨⟨⟨rfl, rfl⟩, rfl⟩, h1⟩, h2⟩, h3⟩ := h; rw [JF h1, EA h2, XW h3])
    | (rename_i JF EA _ _ _; obtain ⟨⟨h1, rfl⟩, h2⟩ := h; rw [JF h1, EA h2])
    | (rename_i ih _ _ _; obtain ⟨⟨rfl, h1⟩, h2⟩ := h; rw [ih h1, D.cL h2])
    | (rename_i JF EA XW ih4 _ _ _ _ _; obtain ⟨⟨⟨⟨rfl, h1⟩, h2⟩, h3⟩, h4⟩ := h; rw [JF h1, EA h2, XW h3, ih4 h4])
def D8:List (E×Bool)→List (E×Bool)→Bool
 | [],_=>true
 | p :: r,q :: s=>p.1.same q.1&&decide (p.2=q.2)&&D8 r s
 | _ :: _,[]=>false
theorem D7:∀{a b:List (E×Bool)},D8 a b=true→∀p,p∈a→p∈b
 | [],_,_,p,hp=>by cases hp
 | x :: r,y :: s,h,p,hp=>by
  simp only[D8,A0f,A0t] at h;obtain⟨⟨h1,h2⟩,h3⟩:=h;have hxy:x=y:=Prod.ext (E.cL h1) h2;subst hxy;cases hp with
  | head=>simp
  | tail _ hp=>simp[D7 h3 p hp]
 | _ :: _,[],h,_,_=>by simp[D8] at h
def SV.strip (act:List (E×Bool)):SV→SV
 | .cond a sv=>if D8 a act then sv else .cz
 | sv=>sv
theorem SV.Sn {w:World}{ρ:dD}{env:List D}{v:Value}{sv:SV}{act:List (E×Bool)}(h:cS w ρ env v sv)(ha:bq env act):cS w ρ env v (sv.strip act):=by
 unfold SV.strip;split
 ·split
  ·rename_i hp;exact h.KF.2.1 fun p hq=>ha p (D7 hp p hq)
  ·exact .cz
 ·exact h
mutual
def SV.same:SV→SV→Bool
 | .cz,.cz=>true
 | .e x s,.e y t=>x.same y&&decide (s=t)
 | .agg a,.agg b=>SV.fq a b
 | .a_ a,.a_ b=>SV.fq a b
 | .addr o f,.addr o' f'=>decide (o=o')&&decide (f=f')
 | .ax o x s f,.ax o' x' s' f'=>decide (o=o')&&x.same x'&&decide (s=s')&&decide (f=f')
 | .ij x f,.ij x' f'=>x.same x'&&decide (f=f')
 | .own x k,.own x' k'=>x.same x'&&decide (k=k')
 | .mE o,.mE o'=>decide (o=o')
 | .func fn a,.func fn' b=>decide (fn=fn')&&SV.fq a b
 | _,_=>false
def SV.fq:List SV→List SV→Bool
 | [],[]=>true
 | a :: r,b :: s=>a.same b&&SV.fq r s
 | _,_=>false
end
mutual
theorem SV.cL:∀{a b:SV},SV.same a b=true→a=b
 | .cz,b,h=>by cases b <;> first | rfl | simp[SV.same] at h
 | .e x s,b,h=>by cases b <;> first | (simp only[SV.same,A0f,A0t] at h;rw[E.cL h.1,h.2]) | simp[SV.same] at h
 | .agg a,b,h=>by cases b <;> first | (simp only[SV.same] at h;rw[SV.dB h]) | simp[SV.same] at h
 | .a_ a,b,h=>by cases b <;> first | (simp only[SV.same] at h;rw[SV.dB h]) | simp[SV.same] at h
 | .addr o f,b,h=>by cases b <;> first | (simp only[SV.same,A0f,A0t] at h;rw[h.1,h.2]) | simp[SV.same] at h
 | .ax o x s f,b,h=>by cases b <;> first | (simp only[SV.same,A0f,A0t] at h;rw[h.1.1.1,E.cL h.1.1.2,h.1.2,h.2]) | simp[SV.same] at h
 | .ij x f,b,h=>by cases b <;> first | (simp only[SV.same,A0f,A0t] at h;rw[E.cL h.1,h.2]) | simp[SV.same] at h
 | .own x k,b,h=>by cases b <;> first | (simp only[SV.same,A0f,A0t] at h;rw[E.cL h.1,h.2]) | simp[SV.same] at h
 | .mE o,b,h=>by cases b <;> first | (simp only[SV.same,A0t] at h;rw[h]) | simp[SV.same] at h
 | .func fn a,b,h=>by cases b <;> first | (simp only[SV.same,A0f,A0t] at h;rw[h.1,SV.dB h.2]) | simp[SV.same] at h
 | .cond act sv,b,h=>by cases b <;> simp[SV.same] at h
theorem SV.dB:∀{a b:List SV},SV.fq a b=true→a=b
 | [],[],_=>rfl
 | a :: r,b :: s,h=>by simp only[SV.fq,A0f] at h;rw[SV.cL h.1,SV.dB h.2]
 | [],_ :: _,h | _ :: _,[],h=>by simp[SV.fq] at h
end
end
end
section
noncomputable section
def ah.zZ (σ:ah):Operand→SV
 | .tmp t=>σ.tmp t
 | .const v=>nC v
 | .global _=>.cz
 | .func f=>.func (.func f) []
def ah.bh (σ:ah)(act:List (E×Bool))(x:Operand):SV:=(σ.zZ x).strip act
def isAtom (ix:Nat):E→Bool
 | .sym k=>decide (k<ix)
 | .const _=>true
 | _=>false
def AH (ops:Array Oper)(σ:ah)(ix:Nat)(g:Option (Nat×Bool)):Option (List (E×Bool)):=
 match g with
 | none=>some []
 | some (j,want)=>match(ops[j]?).bind (·.dst) with
  | some d=>match σ.tmp d with
   | .e x _=>some [(x,want)]
   | .cond act (.e x _)=>if isAtom ix x then some (act++[(x,want)]) else none
   | _=>none
  | none=>none
def w8 (P:Program)(o:Oper)(bh:List (E×Bool)→Operand→SV)(act:List (E×Bool))(obj:Nat→Option aY)(ix:Nat):Option cK:=
 match o.op with
 | .move x | .assign x=>some { val:=bh act x }
 | .pick c a b=>match(bh act c).toE with
  | some c'=>match(bh (act++[(c',true)]) a).toE,(bh (act++[(c',false)]) b).toE with
   | some a',some b'=>some { val:=.e (.sym ix) false,bind:=some (.ev (.ite c' a' b')) }
   | _,_=>none
  | none=>none
 | .alloc t=>if BA P t then G6 P t o.dst else none
 | .box t x=>Mx P t (bh act x) o.dst obj ix
 | .load t x=>Fo P t (bh act x) obj ix
 | .store t x y=>yX P t (bh act x) (bh act y) obj ix
 | .nilCheck x=>abr (bh act x) ix
 | .binOp op t x y _=>aby P op t (bh act x) (bh act y) ix
 | .unOp op _ x=>lun op (bh act x) ix
 | .convert src dst x=>TC P src dst (bh act x) ix
 | .fieldAddr s x f=>match vu P s (bh act x) f with
  | some r=>some r
  | none=>GY P s (bh act x) f ix
 | .indexAddr t x i=>lS P t (bh act x) (bh act i) obj ix
 | .extract x i=>CJ (bh act x) i ix
 | .call c=>match c.callee with
  | .builtin .len=>match c.args.toList,c.argTypes.toList with
   | [x],[t]=>Qg P t (bh act x) obj ix
   | _,_=>none
  | .value f=>match bh act f with
   | .func (.func f) []=>qf P f (c.args.toList.map (bh act)) obj ix
   | .e x _=>G2 P x (c.args.toList.map (bh act)) o obj ix
   | _=>none
  | .invoke rc name=>XM P o (bh act rc) name (c.args.toList.map (bh act)) obj ix
  | _=>none
 | .makeFunc fn first cr=>Tv fn (first.toList.map (bh act)) (cr.toList.map (bh act)) ix
 | .build t parts=>Bl P t parts.toList (bh act) obj
 | _=>none
def Dl (act:List (E×Bool))(x:E):E:=act.foldr (fun p e=>.guard p.1 p.2 e) x
def qq (act:List (E×Bool)):Option Bind→Option Bind
 | none=>none
 | some (.ev x)=>some (.ev (Dl act x))
 | some (.call a f h args rs)=>some (.call (act++a) f h args rs)
 | some (.bw a f h args rs)=>some (.bw (act++a) f h args rs)
 | some (.ei a x h args rs)=>some (.ei (act++a) x h args rs)
 | some (.dG a x h args rs)=>some (.dG (act++a) x h args rs)
def RY (act:List (E×Bool))(sv:SV):SV:=match act with | []=>sv | _=>.cond act sv
def ah.jF (σ:ah)(d:Nat):Bool:=SV.dL d σ.tmps&&(σ.mem.all fun x=>match x with | some y=>y.aM d | none=>true)&&match σ.hs with | some y=>y.aM d | none=>true
def pF (σ:ah)(o:Oper):Bool:=tV o&&match o.dst with | some d=>decide (d<σ.tmps.length) | none=>true
theorem vO {σ:ah}{o:Oper}(h:pF σ o=true):∀d,o.dst=some d→d<σ.tmps.length:=by intro d hd;simp only[pF,hd,A0f,A0t] at h;exact h.2
theorem tH {σ:ah}{o:Oper}(h:pF σ o=true):tV o=true:=by simp only[pF,A0f] at h;exact h.1
section
variable {P:Program} {w w0:World} {X:jN} {a:Act} {σ:ah} {env:List D} {ρ:dD}
theorem Ch (h:aF w0 X w a σ env ρ)(x:Operand):cS w ρ env (a.eval x) (σ.zZ x):=by
 cases x with
 | tmp t=>exact h.tmps t
 | const v=>exact DG v
 | global g=>exact .cz
 | func f=>exact .func (vs:=#[]) rfl (by simp)
theorem q5 (h:aF w0 X w a σ env ρ){act:List (E×Bool)}(ha:bq env act)(x:Operand):cS w ρ env (a.eval x) (σ.bh act x):=SV.Sn (Ch h x) ha
theorem uU:∀{act:List (E×Bool)} {x:E} {d:D},bq env act→(Dl act x).eval env=some d→x.eval env=some d
 | [],_,_,_,h=>h
 | p :: r,x,d,ha,h=>by have hp:=ha p (by simp);simp only[Dl,List.foldr_cons,E.eval,hp,B0d] at h;exact uU (fun q hq=>ha q (by simp[hq])) h
theorem rH {act:List (E×Bool)}{ix:Nat}{b:Option Bind}(ha:bq env act)(h:bD P env ix (qq act b)):bD P env ix b:=by
 cases b with
 | none=>trivial
 | some b=>
  cases b with
  | ev x=>obtain⟨d,h1,h2⟩:=h;exact⟨d,uU ha h1,h2⟩
  | bw oF f hx args rs=>
   obtain⟨st,d,h',h0,h1,h2,h3⟩:=h;have UI:bq env (act++oF)↔bq env oF:=⟨fun hh p hp=>hh p (by simp[hp]),fun hh p hp=>(A0K.1 hp).elim (ha p) (hh p)⟩;exact⟨st,d,h',h0,h1,fun Yv=>h2 (UI.2 Yv),fun hn=>h3 fun hh=>hn (UI.1 hh)⟩
  | dG oF x hx args rs=>
   obtain⟨st,d,h',h0,h1,h2,h3⟩:=h;have UI:bq env (act++oF)↔bq env oF:=⟨fun hh p hp=>hh p (by simp[hp]),fun hh p hp=>(A0K.1 hp).elim (ha p) (hh p)⟩;exact⟨st,d,h',h0,h1,fun Yv=>h2 (UI.2 Yv),fun hn=>h3 fun hh=>hn (UI.1 hh)⟩
  | ei oF x hx args rs=>
   obtain⟨d,h1,h2⟩:=h;refine⟨d,h1,fun Yv=>h2 fun p hp=>?_⟩;rcases A0K.1 hp with hp | hp
   ·exact ha p hp
   ·exact Yv p hp
  | call oF f hx args rs=>
   obtain⟨d,h1,h2⟩:=h;refine⟨d,h1,fun Yv=>h2 fun p hp=>?_⟩;rcases A0K.1 hp with hp | hp
   ·exact ha p hp
   ·exact Yv p hp
theorem MH {ix:Nat}{x:E}(h:isAtom ix x=true)(cA:ix≤env.length):∃d,x.eval env=some d:=by
 unfold isAtom at h;split at h
 ·rename_i k;simp only[A0t] at h;have hk:k<env.length:=A0v h cA;exact⟨env[k],by simp only[E.eval];exact A0e hk⟩
 ·exact⟨_,rfl⟩
 ·cases h
theorem Dn {a:Array Value}{d:Nat}(h:d<a.size):a[d]? = some (a.getD d undef):=by rw[A0s,A0p h];rfl
theorem KS {x:E}{v:Value}{d:D}{want:Bool}(hx:x.eval env=some d)(hr:bA w ρ.S v d):v=.bool want↔x.eval env=some (.v (.bool want)):=by
 rw[hx];constructor
 ·rintro rfl
  cases hr;rfl
 ·intro h;cases h;exact hr.v_eq
theorem Lw {ops:Array Oper}{ix:Nat}{o:Oper}{act:List (E×Bool)}(h:aF w0 X w a σ env ρ)(cA:ix≤env.length)(bV:∀(j d:Nat),(ops[j]?).bind (fun(o:Oper)=>o.dst)=some d→d<σ.tmps.length)(jj:AH ops σ ix o.guard=some act) :
  (∀p,p∈act→∃d,p.1.eval env=some d)∧(Region.wanted o (yielded ops a.tmps)=true↔bq env act):=by
 unfold AH at jj;cases hg:o.guard with
 | none=>
  simp only[hg] at jj;cases jj;exact⟨fun p hp=>(by cases hp),(by simp[Region.wanted,hg,bq])⟩
 | some g=>
  obtain⟨j,want⟩:=g;simp only[hg] at jj;split at jj
  ·rename_i d hd;have fR:=bV j d hd;have uP:=h.tmps d;have hy:Region.wanted o (yielded ops a.tmps)=true↔a.tmps.getD d undef=.bool want:=by simp only[Region.wanted,hg,yielded,hd,A0d,Dn (show d<a.tmps.size by rw[h.size];exact fR)];cases a.tmps.getD d undef <;> simp
   split at jj
   ·rename_i x s hx;cases jj;rw[hx] at uP;obtain⟨dx,iY,bO,_⟩:=uP.jL;refine⟨fun p hp=>by simp at hp;subst hp;exact⟨dx,iY⟩,?_⟩;rw[hy,KS iY bO];simp[bq]
   ·rename_i oF x s hx;split at jj
    ·rename_i lE;cases jj;rw[hx] at uP;obtain⟨pV,anw,uS⟩:=uP.KF;obtain⟨dx,iY⟩:=MH (env:=env) lE cA;refine⟨fun p hp=>?_,?_⟩
     ·rcases A0K.1 hp with hp | hp
      ·exact pV p hp
      ·simp at hp;subst hp;exact⟨dx,iY⟩
     ·rw[hy];have mI:bq env (oF++[(x,want)])↔bq env oF∧x.eval env=some (.v (.bool want)):=by
       constructor
       ·intro hh;exact⟨fun p hp=>hh p (by simp[hp]),hh (x,want) (by simp)⟩
       ·rintro⟨h1,h2⟩ p hp
        rcases A0K.1 hp with hp | hp
        ·exact h1 p hp
        ·simp at hp;subst hp;exact h2
      rw[mI]
      by_cases ha:bq env oF
      ·obtain⟨dx',aoy,bO,_⟩:=(anw ha).jL;rw[KS aoy bO];simp[ha]
      ·rw[uS ha];simp[ha,undef]
    ·cases jj
   ·cases jj
  ·cases jj
theorem x9 {d:Nat}(h:σ.jF d=true):σ.aM d:=by
 simp only[ah.jF,A0f] at h;refine⟨fun t=>?_,fun o' x hx=>?_⟩
 ·simp only[ah.gD];rw[A0k];cases ht:σ.tmps[t]? with
  | none=>rfl
  | some c=>exact SV.eR h.1.1 ht
 ·simp only[ah.ey] at hx;split at hx
  ·have h2:=h.2;rw[hx] at h2;exact h2
  ·rw[A0k] at hx;cases ho:σ.mem[o']? with
   | none=>rw[ho] at hx;cases hx
   | some y=>
    rw[ho] at hx;simp only[B0l] at hx;subst hx;have:=A0C.1 h.1.2 _ (A0I ho);simpa using this
theorem WN {act:List (E×Bool)}{sv:SV}{v:Value}(hd:∀p,p∈act→∃d,p.1.eval env=some d)(h:bq env act)(hv:cS w ρ env v sv):cS w ρ env v (RY act sv):=by
 cases act with
 | nil=>exact hv
 | cons p r=>exact .cond hd (fun _=>hv) fun hn=>absurd h hn
def O7 (σ:ah)(o:Oper)(cm:Option (Nat×aY)):Prop:=
 ∀ob x,cm=some (ob,x)→match o.op with
  | .alloc _=>σ.obj ob=none∧σ.aM ob
  | .box _ y=>σ.obj ob=none∧σ.aM ob∧(σ.bh [] y).aM ob=true
  | _=>True
theorem nG:bq env []:=fun p hp=>(by cases hp)
theorem Jc {o:Oper} {act:List (E×Bool)} {ix:Nat} {r:cK} (h:aF w0 X w a σ env ρ) (ha:bq env act) (hl:w8 P o σ.bh act σ.obj ix=some r) (hd:∀d,o.dst=some d→d<σ.tmps.length) (hm:σ.mem.length=σ.tmps.length)
  (hb:bD P env ix r.bind) (hf:O7 σ o r.cm) (jj:(∃t x,o.op=.box t x)→r.cm≠none→act=[]):(r.cm=none∧ea P o a w w0 X (σ.put o.dst r.val) env)∨(∃ob x,r.cm=some (ob,x)∧ea P o a w w0 X ((σ.setObj ob (some x)).put o.dst r.val) env):=by
 have hv:=fun x=>q5 (a:=a) h ha x;have fC:∀ob y,σ.obj ob=some y→ob=br∨ob<σ.mem.length:=by
  intro ob y hy;simp only[ah.ey] at hy;split at hy
  ·exact .inl (by assumption)
  ·rw[A0k] at hy;rcases A0U ob σ.mem.length with h1 | h1
   ·exact .inr h1
   ·rw[C0Y h1] at hy;cases hy
 unfold w8 at hl;split at hl
 ·rename_i x ho;cases hl;exact .inl ⟨rfl,z7 (.inl ho) (hv x) h hd⟩
 ·rename_i x ho;cases hl;exact .inl ⟨rfl,z7 (.inr ho) (hv x) h hd⟩
 ·rename_i c x y ho;split at hl
  ·rename_i c' hc;split at hl
   ·rename_i x' y' hx hy;cases hl;obtain⟨dc,FF,JM⟩:=SV.toE_rd hc (hv c);obtain⟨dz,he,cA⟩:=hb;simp only[E.eval,FF] at he;have WJ:∀b,dc=.v (.bool b)→bq env (act++[(c',b)]):=by
     intro b fI p hp;rcases A0K.1 hp with hp | hp
     ·exact ha p hp
     ·simp at hp;subst hp;rw[FF,fI]
    split at he
    ·rename_i heq;cases heq;have Ej:=JM.v_eq;obtain⟨dx,iY,iG⟩:=SV.toE_rd hx (q5 (a:=a) h (WJ true rfl) x);rw[iY] at he;cases he;exact .inl ⟨rfl,bl h hd (v:=a.eval x) (by unfold execOp;simp[ho,Ej,asBool]) (.e (by rw[E.eval,cA]) iG (by simp))⟩
    ·rename_i heq;cases heq;have Ej:=JM.v_eq;obtain⟨dy,Eh,X9⟩:=SV.toE_rd hy (q5 (a:=a) h (WJ false rfl) y);rw[Eh] at he;cases he;exact .inl ⟨rfl,bl h hd (v:=a.eval y) (by unfold execOp;simp[ho,Ej,asBool]) (.e (by rw[E.eval,cA]) X9 (by simp))⟩
    ·cases he
   ·cases hl
  ·cases hl
 ·rename_i t ho;split at hl
  ·rename_i hz;have zj:∃d x,o.dst=some d∧r.cm=some (d,x):=by
    unfold G6 at hl;split at hl
    ·cases hl;exact⟨_,_,by assumption,rfl⟩
    ·cases hl
   obtain⟨d0,x0,J3,hu0⟩:=zj;have pU:=hf d0 x0 hu0;rw[ho] at pU;obtain⟨d,x,gB,hu,_,eE⟩:=G5 ho hz hl h hd hm (fun d fo=>by rw[J3] at fo;cases fo;exact pU);exact .inr ⟨d,x,hu,eE⟩
  ·cases hl
 ·rename_i t x ho;have zj:∃d x,o.dst=some d∧r.cm=some (d,x):=by
   unfold Mx at hl;split at hl
   ·obtain⟨_,_,rfl⟩:=A0a.1 hl;exact⟨_,_,by assumption,rfl⟩
   ·cases hl
  obtain⟨d0,x0,J3,hu0⟩:=zj;have aip:act=[]:=jj ⟨_,_,ho⟩ (by rw[hu0];simp);subst aip;have pU:=hf d0 x0 hu0;rw[ho] at pU;obtain⟨d,y,gB,hu,eE⟩:=Mv ho hl (hv x) h hd hm (fun d fo=>by rw[J3] at fo;cases fo;exact pU) hb;exact .inr ⟨d,y,hu,eE⟩
 ·rename_i t x ho;exact .inl (Jp ho hl (hv x) h hd hb)
 ·rename_i t x y ho;obtain⟨ob,z,hu,_,fB,eE⟩:=GP ho hl (hv x) (hv y) h hd fC hb;rw[fB];exact .inr ⟨ob,z,hu,eE⟩
 ·rename_i x ho;exact .inl (Mj ho hl (hv x) h hd hb)
 ·rename_i op t x y yt ho;exact .inl (My ho hl (hv x) (hv y) h hd hb)
 ·rename_i op t x ho;exact .inl (Qa ho hl (hv x) h hd hb)
 ·rename_i src dst x ho;exact .inl (Jv ho hl (hv x) h hd hb)
 ·rename_i s x f ho;split at hl
  ·rename_i hr;cases hl;obtain⟨h1,_,h2⟩:=zb ho hr (hv x) h hd;exact .inl ⟨h1,h2⟩
  ·exact .inl (Er ho hl (hv x) h hd hb)
 ·rename_i t x i ho;exact .inl (yZ ho hl (hv x) (hv i) h hd hb)
 ·rename_i x i ho;exact .inl (CI ho hl (hv x) h hd hb)
 ·rename_i c ho;obtain⟨callee,args,ts⟩:=c;simp only at hl;split at hl
  ·split at hl
   ·rename_i x t hx ht;have e1:args=#[x]:=by rw[←B0b (xs:=args),hx]
    have e2:ts=#[t]:=by rw[←B0b (xs:=ts),ht]
    subst e1 e2;exact .inl (Mo ho hl (hv x) h hd hb)
   ·cases hl
  ·rename_i c;split at hl
   ·rename_i f hfv;have hc:a.eval c=.func (.func f) #[] #[]:=by
     have:=hv c;rw[hfv] at this;obtain⟨vs,he,iH,_⟩:=this.oh;rw[he];have:vs=#[]:=by simpa using iH
     rw[this]
    exact(Jw ho hc hl (by simp) (fun i x s hi hs=>by
     simp only[A0w,B0c,hi,A0y,A0x] at hs;subst hs;exact hv x) h hd hb)
   ·rename_i x s hfv;have hc:=hv c;rw[hfv] at hc;exact G1 ho hc hl (by simp) (fun i x s hi hs=>by
     simp only[A0w,B0c,hi,A0y,A0x] at hs;subst hs;exact hv x) h hd hb
   ·cases hl
  ·rename_i rc name;exact Mq ho hv hl h hd hb
  ·cases hl
 ·rename_i fn first cr ho
  exact .inl (Jm ho hl (by simp) (by simp) (fun i x s hi hs=>by
     simp only[A0w,B0c,hi,A0y,A0x] at hs;subst hs;exact hv x) (fun i x s hi hs=>by
     simp only[A0w,B0c,hi,A0y,A0x] at hs;subst hs;exact hv x) h hd hb)
 ·rename_i t parts ho;exact .inl (Eu ho hv hl h hd)
 ·cases hl
end
end
end
section
noncomputable section
structure RU (w w':World)(row:Option Nat):Prop where
 os:w'.os=w.os
 tape:TL w' w
 output:w'.output=w.output
 size:w.heap.size≤w'.heap.size
 block:∀k,k<w.heap.size→some k≠row→w'.heap[k]? = w.heap[k]?
section
variable {P:Program} (w:World)
theorem lM (t ty e:TypeId) (i:TypeInfo) (z:Value) (size bytes:Nat) (ht:P.underlying t=some (.slice e)) (hi:P.info? e=some i) (hz:i.zero=some z)
  (pg:i.size=size) (RM:i.bytes=bytes) (Hh:z.cells.size=size) (bV:0<size)
  (v:Value) (n:Nat) (xs:List Value) (eB:w.ownsRow 0 e size v n xs)
  (a:Addr) (m c:Nat) (news:List Value) (hl:news.length=m*size) (Ux:∀j u,news[j]? = some u→w.cell? (a.add j)=some u) (h1:∀u∈news,u.oneCell'=true)
  (h63:n+m≤maxLen) (vI:(n+m)*bytes≤140737488355328) :
  ∃v' w',(Builtin.append_ #[t,t] ty #[v,.slice (some a) m c]).run P w=.ok v' w'∧w'.ownsRow 0 e size v' (n+m) (xs++news) ∧
   ((v'.ownBlock=v.ownBlock∧RU w w' v.ownBlock)∨(v'.ownBlock=some w.heap.size∧RU w w' none)):=by
 subst pg;subst RM;have td:n+m≤9223372036854775807:=by simp only[maxLen] at h63;omega
 have hlen:(xs++news).length=(n+m)*i.size:=by rw[A0u,eB.1,hl,B0w]
 have grown:∀(old:Nat),old<n+m →
   (w.drew.alloc (.cells (xs.toArray++news.toArray++Builtin.zeroCells z.cells (grownCap w (n+m) old e-(n+m))) e)).ownsRow 0 e i.size
    (.slice (some ⟨w.heap.size,0,none⟩) (n+m) (grownCap w (n+m) old e)) (n+m) (xs++news) ∧
   RU w (w.drew.alloc (.cells (xs.toArray++news.toArray++Builtin.zeroCells z.cells (grownCap w (n+m) old e-(n+m))) e)) none:=by
  intro old ho;have hge:=grownCap_ge w (n+m) old e;have zk:grownCap w (n+m) old e≤maxLen:=E0c w (n+m) old e h63;refine⟨⟨hlen,.inr ⟨w.heap.size,_,_,rfl,B0e _,C0p w.drew _,hge,zk,?_,?_⟩⟩,⟨rfl,⟨rfl,by simp⟩,rfl,by simp,fun k hk _=>g_ w.drew _ k hk⟩⟩
  ·simp only[D0B,B0I,size_zeroCells,Hh,eB.1,hl,←B0w];congr 1;omega
  ·simp only[B0X,A0A];rw[←A0A,←hlen];exact E0g
 rcases eB.2 with⟨rfl,rfl⟩ | ⟨g,cap,cur,rfl,Yu,hg,Lm,zk,AS,xB⟩
 ·have hx:xs=[]:=A0D (by simpa using eB.1);subst hx
  by_cases hm:m=0
  ·subst hm;have hn:news=[]:=A0D (by simpa using hl);subst hn;refine⟨.slice none 0 0,w,?_,C0O w 0 e i.size,.inl ⟨rfl,⟨rfl,.refl _,rfl,A0m _,fun _ _ _=>rfl⟩⟩⟩;simp[Builtin.append_,A0G ht,sizeOf,typeInfo,hi,Builtin.lenOf,Builtin.firstCells,loadCells,loadCellsFrom]
  ·have hr:=run_append_nil (P:=P) w t ty e i z ht hi hz a m c news hl Ux (by omega) (by omega) (by have hb:=vI;simp only[A0Q] at hb;omega);have sA:=grown 0 (by omega);simp only[A0Q,A0j,Array.empty_append] at sA ⊢;exact⟨_,_,hr,sA.1,.inr ⟨rfl,sA.2⟩⟩
 ·by_cases Fy:n+m≤cap
  ·have dQ:n*i.size+news.length≤cur.size:=by rw[hl,AS,←B0w];exact B0k _ Fy
   have hr:=run_append_room (P:=P) w t ty e i ht hi g n cap cur hg a m c news hl Ux h1 Fy dQ;refine⟨_,_,hr,⟨hlen,.inr ⟨g,cap,_,rfl,Yu,E0p w g cur _ e _ hg,Fy,zk,?_,?_⟩⟩,.inl ⟨rfl,⟨rfl,⟨rfl,A0m _⟩,rfl,by simp,fun k _ hk=>D0I w g k _ (fun e=>hk (by simp[Value.ownBlock,e]))⟩⟩⟩
   ·simp only[B0I,A0u,B0g,B0E,A0W];omega
   ·rw[xB,←hlen];exact E0g
  ·have holds:∀j u,xs[j]? = some u→w.cell? ((⟨g,0,none⟩:Addr).add j)=some u:=eB.cells (g:=g) rfl;have hr:=run_append_grow (P:=P) w t ty e i z ht hi hz ⟨g,0,none⟩ n cap xs eB.1 holds a m c news hl Ux (by omega) (by omega) (growslice_fits (by omega) vI);have sA:=grown cap (by omega);exact⟨_,_,hr,sA.1,.inr ⟨rfl,sA.2⟩⟩
theorem j_ (t ty e:TypeId)(i:TypeInfo)(ht:P.underlying t=some (.slice e))(hi:P.info? e=some i)(ad:Option Addr)(n cap:Nat)(hn:n≤cap) :
  (Builtin.append_ #[t,t] ty #[.slice ad n cap,.slice none 0 0]).run P w=.ok (.slice ad n cap) w:=by
 cases ad <;> simp[Builtin.append_,A0G ht,sizeOf,typeInfo,hi,Builtin.lenOf,Builtin.firstCells,loadCells,hn,storeCells]
theorem AN (t ty e:TypeId)(i:TypeInfo)(ht:P.underlying t=some (.slice e))(hi:P.info? e=some i)(ad:Option Addr)(n cap:Nat)(hn:n≤cap)(a:Addr)(c:Nat) :
  (Builtin.append_ #[t,t] ty #[.slice ad n cap,.slice (some a) 0 c]).run P w=.ok (.slice ad n cap) w:=by
 cases ad <;> simp[Builtin.append_,A0G ht,sizeOf,typeInfo,hi,Builtin.lenOf,Builtin.firstCells,loadCells,loadCellsFrom,hn,storeCells]
end
mutual
def SV.down (k:Nat):SV→SV
 | .own x k'=>if k'=k then .e x true else .own x k'
 | .agg cs=>.agg (SV.lJ k cs)
 | .a_ cs=>.a_ (SV.lJ k cs)
 | .func fn cs=>.func fn (SV.lJ k cs)
 | .cond act sv=>.cond act (sv.down k)
 | .cz=>.cz
 | .e x s=>.e x s
 | .ij x f=>.ij x f
 | .addr o f=>if o=k then .cz else .addr o f
 | .ax o x s f=>if o=k then .cz else .ax o x s f
 | .mE o=>if o=k then .cz else .mE o
def SV.lJ (k:Nat):List SV→List SV
 | []=>[]
 | s :: r=>s.down k :: SV.lJ k r
end
theorem SV.qu {k:Nat}:∀{cs:List SV} {i:Nat} {c:SV},(SV.lJ k cs)[i]? = some c→∃c',cs[i]? = some c'∧c=c'.down k
 | [],i,c,h=>by simp[SV.lJ] at h
 | s :: r,0,c,h=>by simp[SV.lJ] at h;exact⟨s,rfl,h.symm⟩
 | s :: r,i+1,c,h=>by simp[SV.lJ] at h;obtain⟨c',h1,h2⟩:=SV.qu h;exact⟨c',by simpa using h1,h2⟩
theorem SV.jD {k:Nat}:∀(cs:List SV),(SV.lJ k cs).length=cs.length
 | []=>rfl
 | _ :: r=>by simp[SV.lJ,SV.jD r]
mutual
theorem SV.jt {k:Nat}:∀(sv:SV),(sv.down k).aM k=true
 | .own x k'=>by
  simp only[SV.down];split
  ·rfl
  ·simpa[SV.aM] using(by assumption:¬k'=k)
 | .agg cs=>by simp only[SV.down,SV.aM];exact SV.lp cs
 | .a_ cs=>by simp only[SV.down,SV.aM];exact SV.lp cs
 | .func fn cs=>by simp only[SV.down,SV.aM];exact SV.lp cs
 | .cond act sv=>by simp only[SV.down,SV.aM];exact SV.jt sv
 | .cz | .e x s | .ij x f=>rfl
 | .addr o f=>by
  simp only[SV.down];split
  ·rfl
  ·simpa[SV.aM] using(by assumption:¬o=k)
 | .ax o x s f=>by
  simp only[SV.down];split
  ·rfl
  ·simpa[SV.aM] using(by assumption:¬o=k)
 | .mE o=>by
  simp only[SV.down];split
  ·rfl
  ·simpa[SV.aM] using(by assumption:¬o=k)
theorem SV.lp {k:Nat}:∀(cs:List SV),SV.dL k (SV.lJ k cs)=true
 | []=>rfl
 | s :: r=>by simp only[SV.lJ,SV.dL,A0f];exact⟨SV.jt s,SV.lp r⟩
end
theorem cS.down {w:World}{ρ:dD}{env:List D}{v:Value}{sv:SV}(k:Nat)(h:cS w ρ env v sv):cS w ρ env v (sv.down k):=by
 induction h with
 | cz=>exact .cz
 | e hx h h1=>exact .e hx h h1
 | agg hl ho _ ih=>exact .agg (by rw[SV.jD];exact hl) ho fun i v c hv hc=>by obtain⟨c',h1,rfl⟩:=SV.qu hc;exact ih i v c' hv h1
 | a_ hl _ ih=>exact .a_ (by rw[SV.jD];exact hl) fun i v c hv hc=>by obtain⟨c',h1,rfl⟩:=SV.qu hc;exact ih i v c' hv h1
 | addr=>simp only[SV.down];split;exact .cz;exact .addr
 | ax hx=>simp only[SV.down];split;exact .cz;exact .ax hx
 | ij hx h=>exact .ij hx h
 | own hx h hv=>
  simp only[SV.down];split
  ·exact .e hx h fun _=>rfl
  ·exact .own hx h hv
 | mE=>simp only[SV.down];split;exact .cz;exact .mE
 | func hl _ ih=>exact .func (by rw[SV.jD];exact hl) fun i v c hv hc=>by obtain⟨c',h1,rfl⟩:=SV.qu hc;exact ih i v c' hv h1
 | cond hd _ hn ih=>exact .cond hd ih hn
def aY.down (k:Nat):aY→aY
 | .box cs=>.box (SV.lJ k cs)
 | x=>x
def ah.down (k:Nat)(σ:ah):ah:={ tmps:=SV.lJ k σ.tmps,mem:=(σ.mem.map fun x=>x.map (aY.down k)).set k none,hs:=if k=br then none else σ.hs.map (aY.down k) }
theorem aY.YT {w:World}{ρ:dD}{env:List D}{o:Nat}{x:aY}(k:Nat)(h:gP w ρ env o x):gP w ρ env o (x.down k):=by
 cases x with
 | box cs=>
  obtain⟨vs,ty,h1,h2,h3,h4,h5⟩:=h;exact⟨vs,ty,h1,by rw[SV.jD];exact h2,h3,fun i v c hv hc=>by obtain⟨c',h6,rfl⟩:=SV.qu hc;exact(h4 i v c' hv h6).down k,h5⟩
 | row y sz=>exact h
 | tok e sz=>exact h
 | store cf x=>exact h
theorem aY.DC (ρ:dD)(o k:Nat)(x:aY):bN ρ o (x.down k)=bN ρ o x:=by cases x <;> rfl
theorem aY.jt (k:Nat)(x:aY):(x.down k).aM k=true:=by
 cases x with
 | box cs=>exact SV.lp cs
 | row y sz=>rfl
 | tok e sz=>rfl
 | store cf x=>rfl
theorem ah.qv {σ:ah}{k o:Nat}{y:aY}(hy:(σ.down k).obj o=some y):o≠k∧∃x,σ.obj o=some x∧y=x.down k:=by
 simp only[ah.ey,ah.down] at hy ⊢;split at hy
 ·rename_i ho;subst ho;split at hy
  ·cases hy
  ·rename_i hk;obtain⟨x,hx,rfl⟩:=A0a.1 hy;exact⟨fun e=>hk e.symm,x,by simpa using hx,rfl⟩
 ·rename_i hh;simp only[A0k,A0N,A0w,B0u] at hy;rw[A0B hh];simp only[A0k];split at hy
  ·split at hy <;> simp at hy
  ·rename_i bQ;refine⟨fun e=>bQ e.symm,?_⟩;cases ho:σ.mem[o]? with
   | none=>rw[ho] at hy;simp at hy
   | some z=>
    rw[ho] at hy;cases z with
    | none=>simp at hy
    | some x=>simp at hy;exact⟨x,rfl,hy.symm⟩
theorem ah.Ko {σ:ah}{k:Nat}(t:Nat):(σ.down k).tmp t=(σ.tmp t).down k:=by
 have go:∀(l:List SV) (t:Nat),(SV.lJ k l).getD t .cz=(l.getD t .cz).down k:=by
  intro l
  induction l with
  | nil=>intro t;simp[SV.lJ,SV.down]
  | cons s r ih=>
   intro t;cases t with
   | zero=>simp[SV.lJ]
   | succ t=>simpa[SV.lJ] using ih t
 rw[ah.gD,ah.gD];exact go σ.tmps t
theorem ah.jt (σ:ah)(k:Nat):(σ.down k).aM k:=by
 refine⟨fun t=>?_,fun o y hy=>?_⟩
 ·rw[ah.Ko];exact SV.jt _
 ·obtain⟨_,x,_,rfl⟩:=ah.qv hy;exact aY.jt k x
theorem ah.xV (σ:ah)(k:Nat):(σ.down k).tmps.length=σ.tmps.length∧(σ.down k).mem.length=σ.mem.length:=by simp[ah.down,SV.jD]
section
variable {P:Program} {w w' w0:World} {X:jN} {a:Act} {σ:ah} {env:List D} {ρ:dD}
theorem aF.down (h:aF w0 X w a σ env ρ)(k:Nat):aF w0 X w a (σ.down k) env ρ:=by
 refine⟨by rw[(σ.xV k).1];exact h.size,fun t=>by rw[ah.Ko];exact(h.tmps t).down k,fun o y hy=>?_,?_,?_,h.cells,h.os,h.tape,h.output,h.grown,h.old,h.sub,h.new,h.yo,h.hold⟩
 ·obtain⟨_,x,hx,rfl⟩:=ah.qv hy;exact aY.YT k (h.cT o x hx)
 ·intro o o' y y' b h1 h2 h3 h4;obtain⟨_,x,hx,rfl⟩:=ah.qv h1;obtain⟨_,x',fm,rfl⟩:=ah.qv h2;rw[aY.DC] at h3 h4;exact h.inj o o' x x' b hx fm h3 h4
 ·intro o y b h1 h2;obtain⟨_,x,hx,rfl⟩:=ah.qv h1;rw[aY.DC] at h2;exact(by have:=h.own o x b hx h2;cases x <;> exact this)
def dD.j9 (ρ:dD)(k:Nat)(v:Value)(cells:Nat):dD:={ ρ with val:=fun x=>if x=k then v else ρ.val x,S:=ρ.S.or fun b i=>v.ownBlock=some b∧i<cells }
theorem dD.F8 (ρ:dD)(k:Nat)(v:Value)(c:Nat):ρ.tO (ρ.j9 k v c) (·=k):=
 ⟨⟨fun _ _=>rfl,fun x hx=>by simp[dD.j9,hx],ρ.S.pe _⟩,fun _=>rfl,fun _=>rfl⟩
theorem aF.D6 (h:aF w0 X w a σ env ρ) {k:Nat} (hk:k<σ.mem.length) (iI:σ.obj k=none) (mU:σ.aM k) {e:TypeId} {size:Nat} {v:Value} {n:Nat} {xs:List Value} (eB:w'.ownsRow 0 e size v n xs)
  (hK:bM ρ.S w w') (hb:∀o x b,σ.obj o=some x→bN ρ o x b→w'.heap[b]? = w.heap[b]?∧v.ownBlock≠some b) (hB:∀b,v.ownBlock=some b→w0.heap.size≤b∨X.may b)
  (hS:∀b,v.ownBlock=some b→∀off,n*size≤off→¬ρ.S b off) (nZ:w'.os=w.os) (ht:TL w' w) (fZ:w'.output=w.output) (bV:w.heap.size≤w'.heap.size)
  (hold:∀b,b<w0.heap.size→¬X.may b→w'.heap[b]? = w.heap[b]?):aF w0 X w' a (σ.setObj k (some (.tok e size))) env (ρ.j9 k v (n*size)):=by
 have hm:=ρ.F8 k v (n*size);have bQ:∀o y,σ.obj o=some y→o≠k:=fun o y hy e=>by rw[e,iI] at hy;cases hy
 have hlt:∀b,v.ownBlock=some b→b<w'.heap.size:=fun b fI=>(eB.lt b fI).2;have fB:(ρ.j9 k v (n*size)).val k=v:=by simp[dD.j9]
 refine⟨by rw[ah.aP];exact h.size,fun t=>by rw[ah.fz];exact(h.tmps t).keep hK hm fun o' e'=>by subst e';exact mU.1 t,?_,?_,?_,?_,nZ.trans h.os,ht.trans h.tape,fZ.trans h.output,A0J h.grown bV,fun b h1 h2=>(hold b h1 h2).trans (h.old b h1 h2),Sets.le_trans h.sub (ρ.S.pe _),?_,h.yo,h.hold⟩
 ·intro o y hy;rw[ah.lP hk] at hy
  by_cases e':o=k
  ·subst e';simp at hy;subst hy;refine⟨n,xs,by rw[fB];exact eB,fun b fI off r_ hs=>?_⟩;rw[fB] at fI;rcases hs with hs | ⟨_,hs⟩
   ·exact hS b fI off r_ hs
   ·omega
  ·simp[e'] at hy;refine(h.cT o y hy).keep hK hm e' (fun o'' e''=>by subst e'';exact mU.2 o y hy) (fun b fI=>(hb o y b hy fI).1) fun b off fI hs=>?_;rcases hs with hs | ⟨hs,_⟩
   ·exact hs
   ·exact absurd hs (hb o y b hy fI).2
 ·intro o1 o2 y1 y2 b h1 h2 h3 h4;rw[ah.lP hk] at h1 h2
  by_cases e1:o1=k <;> by_cases e2:o2=k
  ·rw[e1,e2]
  ·subst e1;simp at h1;subst h1;simp[e2] at h2;rw[eZ hm e2 (h.cT _ _ h2)] at h4;simp only[bN,fB] at h3;exact absurd h3 (hb o2 y2 b h2 h4).2
  ·subst e2;simp at h2;subst h2;simp[e1] at h1;rw[eZ hm e1 (h.cT _ _ h1)] at h3;simp only[bN,fB] at h4;exact absurd h4 (hb o1 y1 b h1 h3).2
  ·simp[e1] at h1;simp[e2] at h2;rw[eZ hm e1 (h.cT _ _ h1)] at h3;rw[eZ hm e2 (h.cT _ _ h2)] at h4;exact h.inj o1 o2 y1 y2 b h1 h2 h3 h4
 ·intro o y b hy fI;rw[ah.lP hk] at hy
  by_cases e':o=k
  ·subst e';simp at hy;subst hy;simp only[bN,fB] at fI;exact⟨.inr (hB b fI),hlt b fI⟩
  ·simp[e'] at hy;rw[eZ hm e' (h.cT _ _ hy)] at fI;obtain⟨h1,h2⟩:=h.own o y b hy fI;exact⟨h1,A0v h2 bV⟩
 ·intro b o hs;rcases hs with hs | ⟨hs,_⟩
  ·exact A0v (h.cells b o hs) bV
  ·exact hlt b hs
 ·intro b o hs;rcases hs with hs | ⟨hs,_⟩
  ·exact h.new b o hs
  ·exact .inr (hB b hs)
def j8 (w:World)(S:Sets)(size:Nat)(xs:List Value)(es:List D):Prop:=
 xs.length=es.length*size∧(∀(i:Nat) (e:D),es[i]? = some e→e.cells.length=size) ∧
 ∀(i:Nat) (e:D) (j:Nat) (d:D),es[i]? = some e→e.cells[j]? = some d→d.one=true∧∃v,xs[i*size+j]? = some v∧bA w S v d
theorem j8.keep {S S':Sets}{size:Nat}{xs:List Value}{es:List D}(h:j8 w S size xs es)(hk:bM S w w')(hS:S≤S'):j8 w' S' size xs es:=
 ⟨h.1,h.2.1,fun i e j d he hd=>let ⟨h1,v,h2,h3⟩:=h.2.2 i e j d he hd;⟨h1,v,h2,h3.keep hk hS⟩⟩
theorem s_ {es:List D}{size i j:Nat}{e d:D}(hz:∀(i:Nat) (e:D),es[i]? = some e→e.cells.length=size)(he:es[i]? = some e)(hd:e.cells[j]? = some d):i*size+j<es.length*size∧j<size:=by
 have hi:i<es.length:=(A0c.1 he).1;have hj:j<size:=by rw[←hz i e he];exact(A0c.1 hd).1
 refine⟨?_,hj⟩;have:(i+1)*size≤es.length*size:=B0k _ hi;rw[B0w,C0S] at this;omega
theorem Gz {S:Sets}{e:TypeId}{size n:Nat}{v:Value}{xs:List Value}{es:List D}(eB:w.ownsRow 0 e size v n xs)(hn:es.length=n)(pS:j8 w S size xs es)(hS:∀b,v.ownBlock=some b→∀i,i<n*size→S b i):bA w S v (.bk es):=by
 rcases eB.2 with⟨rfl,rfl⟩ | ⟨g,cap,cur,rfl,_,hg,Lm,zk,AS,xB⟩
 ·have:es=[]:=A0D hn;subst this;exact .nil
 ·refine .bk (size:=size) (val:=fun i j=>xs.getD (i*size+j) undef) hn.symm Lm zk pS.2.1 (fun i e j d he hd=>(pS.2.2 i e j d he hd).1) (fun i e j d he hd=>?_) (fun i e j d he hd=>?_) fun i e j d he hd=>?_
  ·refine hS g rfl _ ?_;have:=(s_ pS.2.1 he hd).1;rw[hn] at this;omega
  ·obtain⟨_,v,hv,_⟩:=pS.2.2 i e j d he hd;have:=eB.cells (g:=g) rfl (i*size+j) v hv;rw[gO] at this;simp only[A0k,hv,B0l];rw[show 0+i*size+j=0+(i*size+j) from by omega];exact this
  ·obtain⟨_,v,hv,hr⟩:=pS.2.2 i e j d he hd;simp only[A0k,hv,B0l];exact hr
theorem Xp {S:Sets}{e:TypeId}{size n:Nat}{v:Value}{xs:List Value}{es:List D}(eB:w.ownsRow 0 e size v n xs)(h:bA w S v (.bk es))(hz:cC size es=true):es.length=n∧j8 w S size xs es:=by
 have Lf:∀(i:Nat) (e:D),es[i]? = some e→e.cells.length=size:=fun i e he=>nF hz he;rcases eB.2 with⟨rfl,rfl⟩ | ⟨g,cap,cur,rfl,_,hg,Lm,zk,AS,xB⟩
 ·cases h;have:xs=[]:=A0D (by simpa using eB.1);subst this;exact⟨rfl,by simp,Lf,by simp⟩
 ·cases h with
  | emp _=>
   have:xs=[]:=A0D (by simpa using eB.1);subst this;exact⟨rfl,by simp,Lf,by simp⟩
  | bk hl hc hm OK ho hS hw hr=>
   refine⟨hl.symm,by rw[eB.1,hl],Lf,fun i e j d he hd=>⟨ho i e j d he hd,?_⟩⟩;obtain⟨hlt,hj⟩:=s_ Lf he hd;have bV:=(OK i e he).symm.trans (Lf i e he);have hx:i*size+j<xs.length:=by rw[eB.1,hl];exact hlt
   refine⟨xs[i*size+j],A0e hx,?_⟩;have h1:=eB.cells (g:=g) rfl _ _ (A0e hx);have h2:=hw i e j d he hd;rw[gO] at h1;rw[bV,show 0+i*size+j=0+(i*size+j) from by omega,h1] at h2;rw[B0M h2];exact hr i e j d he hd
end
end
end
end Go.Am
