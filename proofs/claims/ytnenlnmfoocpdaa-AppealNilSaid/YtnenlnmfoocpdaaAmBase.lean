/-
  Immutable data, how a value reads as data in a world, expressions over data, symbolic values and states of a frame, and what it means that a frame and a world are as such a state says.
-/
import Derived.Orders
import Derived.Tactics2
import Derived.Laws.AppendOwn
import Derived.Laws.OwnMore
import Derived.Laws.Rows
import Derived.Below
set_option linter.unusedSimpArgs false
set_option linter.unusedVariables false
namespace Go.Am

/-! ## Data -/

/-- Immutable data: a plain value of one cell; a struct or array by its cells; a slice by its elements; a pointer to cells that nobody writes; several results; a value in an interface. -/
inductive D where
  | v (x : Value)
  | agg (cs : List D)
  | lst (es : List D)
  | ptr (cs : List D)
  | tup (ds : List D)
  | ifc (t : TypeId) (d : D)
  | fn (f : FuncId) (first caps : List D)
  /-- a pointer into a block of the store -/
  | loc (i off : Nat)
  /-- a slice of a block of the store -/
  | sl (i off len : Nat)
  /-- a nil slice that may come into the store -/
  | snil
  /-- a block of the store: its elements' type and size, its cells -/
  | blk (e : TypeId) (sz : Nat) (cs : List D)
  /-- a map of the store -/
  | mp (i : Nat)
  /-- ... its entries, each a pair -/
  | mblk (kvs : List D)
  /-- what a loop over a function hands to it: the record of the loop lies in the block l -/
  | yl (l : Nat) (rec : Loop) (sl : List Nat) (caps : List D)
  /-- a store: its blocks -/
  | st (bs : List D)
  deriving Inhabited

abbrev D.int (n : Int) : D := .v (.int .i64 n)
abbrev D.bool (b : Bool) : D := .v (.bool b)

def D.cells : D → List D
  | .agg cs => cs
  | d => [d]

/-- of one cell -/
def D.one : D → Bool
  | .agg _ | .tup _ | .blk _ _ _ | .st _ | .mblk _ => false
  | _ => true

def plain : Value → Bool
  | .bool _ | .int _ _ | .float _ _ | .complex _ _ _ | .string _ | .pointer none | .map none | .chan none | .nilFunc | .nilIface => true
  | .func _ f c => f.isEmpty && c.isEmpty
  | _ => false

theorem plain_one {x : Value} (h : plain x = true) : x.oneCell' = true := by
  cases x <;> simp [plain, Value.oneCell'] at *

/-- the cells that nobody writes any more; where the store's blocks lie, how many there are, how many elements they have room for -/
structure Sets where
  mem : Nat → Nat → Prop
  loc : Nat → Nat
  n : Nat
  cap : Nat → Nat
  /-- the records of loops that are under way -/
  hold : Nat → Option Loop := fun _ => none

instance : CoeFun Sets (fun _ => Nat → Nat → Prop) := ⟨Sets.mem⟩

structure Sets.Le (S S' : Sets) : Prop where
  mem : ∀ b o, S b o → S' b o
  n : S.n ≤ S'.n
  loc : ∀ i, i < S.n → S'.loc i = S.loc i
  cap : ∀ i, i < S.n → S'.cap i = S.cap i
  hold : S'.hold = S.hold

instance : LE Sets := ⟨Sets.Le⟩

theorem Sets.le_refl (S : Sets) : S ≤ S := ⟨fun _ _ h => h, Nat.le_refl _, fun _ _ => rfl, fun _ _ => rfl, rfl⟩
theorem Sets.le_trans {S T U : Sets} (h : S ≤ T) (k : T ≤ U) : S ≤ U :=
  ⟨fun b o x => k.mem b o (h.mem b o x), Nat.le_trans h.n k.n, fun i hi => (k.loc i (Nat.lt_of_lt_of_le hi h.n)).trans (h.loc i hi), fun i hi => (k.cap i (Nat.lt_of_lt_of_le hi h.n)).trans (h.cap i hi), k.hold.trans h.hold⟩

/-- The value v reads as data in the world w; the cells that are read are those of the set S. -/
inductive RdD (w : World) (S : Sets) : Value → D → Prop
  | v {x : Value} (h : plain x = true) : RdD w S x (.v x)
  | agg {vs : Array Value} {ds : List D} (hl : vs.size = ds.length) (ho : ∀ (i : Nat) (d : D), ds[i]? = some d → d.one = true)
      (h : ∀ (i : Nat) (v : Value) (d : D), vs[i]? = some v → ds[i]? = some d → RdD w S v d) : RdD w S (.agg vs) (.agg ds)
  | nil : RdD w S (.slice none 0 0) (.lst [])
  /-- no elements: wherever it is -/
  | emp {a : Addr} {cap : Nat} (hm : cap ≤ maxLen) : RdD w S (.slice (some a) 0 cap) (.lst [])
  | lst {b off len cap size : Nat} {es : List D} {val : Nat → Nat → Value} (hl : len = es.length) (hc : len ≤ cap) (hm : cap ≤ maxLen) (hz : ∀ (i : Nat) (e : D), es[i]? = some e → e.cells.length = size)
      (ho : ∀ (i : Nat) (e : D) (j : Nat) (d : D), es[i]? = some e → e.cells[j]? = some d → d.one = true)
      (hS : ∀ (i : Nat) (e : D) (j : Nat) (d : D), es[i]? = some e → e.cells[j]? = some d → S b (off + i * size + j))
      (hw : ∀ (i : Nat) (e : D) (j : Nat) (d : D), es[i]? = some e → e.cells[j]? = some d → w.cell? ⟨b, off + i * size + j, none⟩ = some (val i j))
      (hr : ∀ (i : Nat) (e : D) (j : Nat) (d : D), es[i]? = some e → e.cells[j]? = some d → RdD w S (val i j) d) : RdD w S (.slice (some ⟨b, off, none⟩) len cap) (.lst es)
  | ptr {b off : Nat} {cs : List D} {val : Nat → Value} (ho : ∀ (j : Nat) (d : D), cs[j]? = some d → d.one = true) (hS : ∀ (j : Nat) (d : D), cs[j]? = some d → S b (off + j))
      (hw : ∀ (j : Nat) (d : D), cs[j]? = some d → w.cell? ⟨b, off + j, none⟩ = some (val j))
      (hr : ∀ (j : Nat) (d : D), cs[j]? = some d → RdD w S (val j) d) : RdD w S (.pointer (some ⟨b, off, none⟩)) (.ptr cs)
  | tup {vs : Array Value} {ds : List D} (hl : vs.size = ds.length)
      (h : ∀ (i : Nat) (v : Value) (d : D), vs[i]? = some v → ds[i]? = some d → RdD w S v d) : RdD w S (.tuple vs) (.tup ds)
  | ifc {t : TypeId} {v : Value} {d : D} (h : RdD w S v d) : RdD w S (.iface t v) (.ifc t d)
  | fn {f : FuncId} {us vs : Array Value} {ds es : List D} (hl : us.size = ds.length) (hl' : vs.size = es.length)
      (h : ∀ (i : Nat) (v : Value) (d : D), us[i]? = some v → ds[i]? = some d → RdD w S v d) (h' : ∀ (i : Nat) (v : Value) (d : D), vs[i]? = some v → es[i]? = some d → RdD w S v d) : RdD w S (.func (.func f) us vs) (.fn f ds es)
  | loc {i off : Nat} (h : i < S.n) : RdD w S (.pointer (some ⟨S.loc i, off, none⟩)) (.loc i off)
  | snil : RdD w S (.slice none 0 0) .snil
  | yl {l : Nat} {rec : Loop} {sl : List Nat} {caps : List D} (h : S.hold l = some rec) (hc : ∀ (i s : Nat) (d : D), sl[i]? = some s → caps[i]? = some d → RdD w S (rec.tmps.getD s undef) d) : RdD w S (.func (.yield l) #[] #[]) (.yl l rec sl caps)
  | mp {i : Nat} (h : i < S.n) : RdD w S (.map (some (S.loc i))) (.mp i)
  | sl {i off len c : Nat} (h : i < S.n) (hl : len ≤ c) (hc : c ≤ maxLen) (h0 : off = 0 → c = S.cap i) : RdD w S (.slice (some ⟨S.loc i, off, none⟩) len c) (.sl i off len)

/-- w' holds, at the cells of S, what w holds. -/
def Keeps (S : Sets) (w w' : World) : Prop := ∀ b o, S b o → w'.cell? ⟨b, o, none⟩ = w.cell? ⟨b, o, none⟩

theorem Keeps.refl (S : Sets) (w : World) : Keeps S w w := fun _ _ _ => rfl
theorem Keeps.trans {S : Sets} {a b c : World} (h : Keeps S a b) (k : Keeps S b c) : Keeps S a c := fun x o hS => (k x o hS).trans (h x o hS)

theorem RdD.keep {w w' : World} {S S' : Sets} {v : Value} {d : D} (h : RdD w S v d) (hk : Keeps S w w') (hS : S ≤ S') : RdD w' S' v d := by
  induction h with
  | v h => exact .v h
  | agg hl ho _ ih => exact .agg hl ho ih
  | nil => exact .nil
  | emp hm => exact .emp hm
  | lst hl hc hm hz ho hS1 hw _ ih => exact .lst hl hc hm hz ho (fun i e j d h1 h2 => hS.mem _ _ (hS1 i e j d h1 h2)) (fun i e j d h1 h2 => (hk _ _ (hS1 i e j d h1 h2)).trans (hw i e j d h1 h2)) ih
  | ptr ho hS1 hw _ ih => exact .ptr ho (fun j d h1 => hS.mem _ _ (hS1 j d h1)) (fun j d h1 => (hk _ _ (hS1 j d h1)).trans (hw j d h1)) ih
  | tup hl _ ih => exact .tup hl ih
  | ifc _ ih => exact .ifc ih
  | fn hl hl' _ _ ih ih' => exact .fn hl hl' ih ih'
  | snil => exact .snil
  | yl h _ ih => exact .yl (by rw [hS.hold]; exact h) ih
  | mp h => rw [← hS.loc _ h]; exact .mp (Nat.lt_of_lt_of_le h hS.n)
  | loc h => rw [← hS.loc _ h]; exact .loc (Nat.lt_of_lt_of_le h hS.n)
  | sl h hl hc h0 => rw [← hS.loc _ h]; exact .sl (Nat.lt_of_lt_of_le h hS.n) hl hc fun e => (h0 e).trans (hS.cap _ h).symm

mutual
/-- does the data name no loop that is under way? -/
def D.noyl : D → Bool
  | .v _ | .snil | .loc _ _ | .sl _ _ _ | .mp _ => true
  | .agg cs | .lst cs | .ptr cs | .tup cs | .blk _ _ cs | .mblk cs | .st cs => noyls cs
  | .ifc _ d => d.noyl
  | .fn _ a b => noyls a && noyls b
  | .yl _ _ _ _ => false
def noyls : List D → Bool
  | [] => true
  | d :: r => d.noyl && noyls r
end

theorem noyls_get : ∀ {ds : List D} {i : Nat} {d : D}, noyls ds = true → ds[i]? = some d → d.noyl = true
  | [], _, _, _, h => by simp at h
  | x :: r, 0, d, h, hi => by simp [noyls] at h hi; exact hi ▸ h.1
  | x :: r, i + 1, d, h, hi => by simp [noyls] at h hi; exact noyls_get h.2 hi

theorem noyl_cells {d c : D} {j : Nat} (h : d.noyl = true) (hc : d.cells[j]? = some c) : c.noyl = true := by
  cases d <;> first
    | (simp only [D.cells] at hc; simp only [D.noyl] at h; exact noyls_get h hc)
    | (cases j with
       | zero => simp only [D.cells, List.getElem?_cons_zero, Option.some.injEq] at hc; subst hc; exact h
       | succ j => simp [D.cells] at hc)

/-- the same, but for the loops under way -/
structure Sets.Like (S S' : Sets) : Prop where
  mem : ∀ b o, S b o → S' b o
  n : S.n = S'.n
  loc : ∀ i, S'.loc i = S.loc i
  cap : ∀ i, S'.cap i = S.cap i

/-- Data that names no loop under way reads alike whatever loops are under way. -/
theorem RdD.like {w : World} {S S' : Sets} {v : Value} {d : D} (h : RdD w S v d) (hS : S.Like S') (hd : d.noyl = true) : RdD w S' v d := by
  induction h with
  | v h => exact .v h
  | agg hl ho _ ih => exact .agg hl ho fun i v d h1 h2 => ih i v d h1 h2 (noyls_get (by simpa [D.noyl] using hd) h2)
  | nil => exact .nil
  | emp hm => exact .emp hm
  | lst hl hc hm hz ho hS1 hw _ ih => exact .lst hl hc hm hz ho (fun i e j d h1 h2 => hS.mem _ _ (hS1 i e j d h1 h2)) hw fun i e j d h1 h2 => ih i e j d h1 h2 (noyl_cells (noyls_get (by simpa [D.noyl] using hd) h1) h2)
  | ptr ho hS1 hw _ ih => exact .ptr ho (fun j d h1 => hS.mem _ _ (hS1 j d h1)) hw fun j d h1 => ih j d h1 (noyls_get (by simpa [D.noyl] using hd) h1)
  | tup hl _ ih => exact .tup hl fun i v d h1 h2 => ih i v d h1 h2 (noyls_get (by simpa [D.noyl] using hd) h2)
  | ifc _ ih => exact .ifc (ih (by simpa [D.noyl] using hd))
  | fn hl hl' _ _ ih ih' =>
    simp only [D.noyl, Bool.and_eq_true] at hd
    exact .fn hl hl' (fun i v d h1 h2 => ih i v d h1 h2 (noyls_get hd.1 h2)) fun i v d h1 h2 => ih' i v d h1 h2 (noyls_get hd.2 h2)
  | snil => exact .snil
  | mp h => rw [← hS.loc _]; exact .mp (by rw [← hS.n]; exact h)
  | loc h => rw [← hS.loc _]; exact .loc (by rw [← hS.n]; exact h)
  | sl h hl hc h0 => rw [← hS.loc _]; exact .sl (by rw [← hS.n]; exact h) hl hc fun e => (h0 e).trans (hS.cap _).symm
  | yl _ _ _ => simp [D.noyl] at hd

/-- ... where those that are named are still under way -/
theorem RdD.rehold {w : World} {S S' : Sets} {v : Value} {d : D} (h : RdD w S v d) (hS : S.Like S') (hh : ∀ l rec, S.hold l = some rec → S'.hold l = some rec) : RdD w S' v d := by
  induction h with
  | v h => exact .v h
  | agg hl ho _ ih => exact .agg hl ho ih
  | nil => exact .nil
  | emp hm => exact .emp hm
  | lst hl hc hm hz ho hS1 hw _ ih => exact .lst hl hc hm hz ho (fun i e j d h1 h2 => hS.mem _ _ (hS1 i e j d h1 h2)) hw ih
  | ptr ho hS1 hw _ ih => exact .ptr ho (fun j d h1 => hS.mem _ _ (hS1 j d h1)) hw ih
  | tup hl _ ih => exact .tup hl ih
  | ifc _ ih => exact .ifc ih
  | fn hl hl' _ _ ih ih' => exact .fn hl hl' ih ih'
  | snil => exact .snil
  | mp h => rw [← hS.loc _]; exact .mp (by rw [← hS.n]; exact h)
  | loc h => rw [← hS.loc _]; exact .loc (by rw [← hS.n]; exact h)
  | sl h hl hc h0 => rw [← hS.loc _]; exact .sl (by rw [← hS.n]; exact h) hl hc fun e => (h0 e).trans (hS.cap _).symm
  | yl h _ ih => exact .yl (hh _ _ h) ih

/-- a block of the store that is there -/
def D.live : D → Bool
  | .blk _ _ _ | .mblk _ => true
  | _ => false

theorem RdD.one {w : World} {S : Sets} {v : Value} {d : D} (h : RdD w S v d) (hd : d.one = true) : v.oneCell' = true := by
  cases h <;> first | exact plain_one (by assumption) | rfl | simp [D.one] at hd

theorem RdD.v_inv {w : World} {S : Sets} {v x : Value} (h : RdD w S v (.v x)) : v = x ∧ plain x = true := by
  cases h; exact ⟨rfl, by assumption⟩

theorem RdD.agg_inv {w : World} {S : Sets} {v : Value} {ds : List D} (h : RdD w S v (.agg ds)) : ∃ vs : Array Value, v = .agg vs ∧ vs.size = ds.length ∧ (∀ (i : Nat) (d : D), ds[i]? = some d → d.one = true) ∧
    ∀ (i : Nat) (v : Value) (d : D), vs[i]? = some v → ds[i]? = some d → RdD w S v d := by
  cases h; exact ⟨_, rfl, by assumption, by assumption, by assumption⟩

theorem RdD.tup_inv {w : World} {S : Sets} {v : Value} {ds : List D} (h : RdD w S v (.tup ds)) : ∃ vs : Array Value, v = .tuple vs ∧ vs.size = ds.length ∧
    ∀ (i : Nat) (v : Value) (d : D), vs[i]? = some v → ds[i]? = some d → RdD w S v d := by
  cases h; exact ⟨_, rfl, by assumption, by assumption⟩

/-! ## Expressions -/

/-- what kind of operands an operator is for -/
inductive Kd where
  | int | bool | str | ptr | agg (ks : List Nat)
  deriving DecidableEq, Repr, Inhabited

/-- operations on the store's maps -/
inductive MOp where
  | newm | fstm | get (kd : Kd) (agg : Bool) | getok (kd : Kd) | put (kd : Kd) | del (kd : Kd) | mlen | ifnil (neg : Bool) | tassert (t : TypeId) | isifc | same
  deriving DecidableEq, Repr, Inhabited

inductive E where
  | sym (k : Nat)
  | const (d : D)
  | bin (op : BinOp) (kd : Kd) (a b : E)
  | un (op : UnOp) (a : E)
  | conv (k : IntKind) (a : E)
  | lenL (a : E)
  | lenS (a : E)
  | scal (a : E)
  | cell (i : Nat) (a : E)
  | cells (i n : Nat) (a : E)
  | aggN (n : Nat) (a : E)
  | idx (a i : E)
  | idxN (n : Nat) (a i : E)
  | nil
  | cons (a b : E)
  | one (a : E)
  | app (size bytes : Nat) (a b : E)
  | lcons (a b : E)
  | mkptr (a : E)
  | mkfn (f : FuncId) (a b : E)
  | sub (size : Nat) (a lo hi : E)
  | set (a i : E) (off : Nat) (x : E)
  | ite (c a b : E)
  | guard (c : E) (want : Bool) (a : E)
  | tnil
  | tcons (a b : E)
  | tget (i : Nat) (a : E)
  | rep (bytes : Nat) (n : E) (d : D)
  | deref (a : E)
  | ifc (t : TypeId) (a : E)
  | mm (max : Bool) (a b : E)
  | padd (off : Nat) (a : E)
  | nn (a : E)
  | eaddr (size : Nat) (a i : E)
  | ld (agg : Bool) (n : Nat) (h p : E)
  | sto (n : Nat) (h p y : E)
  | newb (e : TypeId) (sz : Nat) (h y : E)
  | fstid (h : E)
  | newv (e : TypeId) (sz : Nat) (h l : E)
  | fstsl (h l : E)
  | apph (e : TypeId) (sz bytes : Nat) (h x y : E)
  | apps (h x y : E)
  | frzv (agg : Bool) (h x : E)
  | frzh (h x : E)
  | m4 (op : MOp) (a b c d : E)
  deriving Inhabited

def cmpI (op : BinOp) (a b : Int) : Option Bool :=
  match op with
  | .eql => some (a == b)
  | .neq => some (a != b)
  | .lss => some (a < b)
  | .leq => some (a ≤ b)
  | .gtr => some (a > b)
  | .geq => some (a ≥ b)
  | _ => none

def arI (op : BinOp) (k : IntKind) (a b : Int) : Option Int :=
  match op with
  | .add => some (k.wrap (a + b))
  | .sub => some (k.wrap (a - b))
  | .mul => some (k.wrap (a * b))
  | .quo => if b = 0 then none else some (k.wrap (a.tdiv b))
  | .rem => if b = 0 then none else some (a.tmod b)
  | .and => some (k.wrap (BitVec.ofInt k.bits a &&& BitVec.ofInt k.bits b).toNat)
  | .or => some (k.wrap (BitVec.ofInt k.bits a ||| BitVec.ofInt k.bits b).toNat)
  | .xor => some (k.wrap (BitVec.ofInt k.bits a ^^^ BitVec.ofInt k.bits b).toNat)
  | .andNot => some (k.wrap (BitVec.ofInt k.bits a &&& ~~~(BitVec.ofInt k.bits b)).toNat)
  | _ => none

def shI (op : BinOp) (k : IntKind) (a b : Int) : Option Int :=
  if b < 0 then none else
  match op with
  | .shl => some (k.wrap (a * 2 ^ (min b.toNat k.bits)))
  | .shr => some (a.fdiv (2 ^ (min b.toNat k.bits)))
  | _ => none

/-- '==' between the cells of two structs: numbers (0), bools (1) and strings (2) alone -/
def D.eqs : List Nat → List D → List D → Option Bool
  | [], [], [] => some true
  | 0 :: ks, .v (.int k a) :: r, .v (.int k' b) :: s => if k = k' then (D.eqs ks r s).map (a == b && ·) else none
  | 1 :: ks, .v (.bool a) :: r, .v (.bool b) :: s => (D.eqs ks r s).map (a == b && ·)
  | 2 :: ks, .v (.string a) :: r, .v (.string b) :: s => (D.eqs ks r s).map (a.toList == b.toList && ·)
  | _, _, _ => none

def D.bin (op : BinOp) (kd : Kd) (x y : D) : Option D :=
  match kd, x, y with
  | .int, .v (.int k a), .v (.int k' b) =>
    match op with
    | .shl | .shr => (shI op k a b).map fun n => .v (.int k n)
    | _ => if k = k' then (match cmpI op a b with | some r => some (.v (.bool r)) | none => (arI op k a b).map fun n => .v (.int k n)) else none
  | .bool, .v (.bool a), .v (.bool b) => (match op with | .eql => some (.v (.bool (a == b))) | .neq => some (.v (.bool (!(a == b)))) | _ => none)
  | .str, .v (.string a), .v (.string b) =>
    (match op with
     | .add => if ((a.size + b.size : Nat) : Int) > IntKind.i64.max then none else some (.v (.string (a ++ b)))
     | .eql => some (.v (.bool (a.toList == b.toList)))
     | .neq => some (.v (.bool (!(a.toList == b.toList))))
     | .lss => some (.v (.bool (Op.bytesLess a.toList b.toList)))
     | .leq => some (.v (.bool (Op.bytesLess a.toList b.toList || a.toList == b.toList)))
     | .gtr => some (.v (.bool (!(Op.bytesLess a.toList b.toList || a.toList == b.toList))))
     | .geq => some (.v (.bool (!(Op.bytesLess a.toList b.toList))))
     | _ => none)
  | .ptr, .v (.pointer none), .v (.pointer none) => (match op with | .eql => some (.v (.bool true)) | .neq => some (.v (.bool false)) | _ => none)
  | .ptr, .loc _ _, .v (.pointer none) | .ptr, .v (.pointer none), .loc _ _ => (match op with | .eql => some (.v (.bool false)) | .neq => some (.v (.bool true)) | _ => none)
  | .ptr, .ptr _, .v (.pointer none) | .ptr, .v (.pointer none), .ptr _ => (match op with | .eql => some (.v (.bool false)) | .neq => some (.v (.bool true)) | _ => none)
  | .agg ks, .agg xs, .agg ys => (match op with | .eql => (D.eqs ks xs ys).map fun b => .v (.bool b) | .neq => (D.eqs ks xs ys).map fun b => .v (.bool (!b)) | _ => none)
  | _, _, _ => none

def D.un (op : UnOp) (x : D) : Option D :=
  match op, x with
  | .not, .v (.bool b) => some (.v (.bool (!b)))
  | .neg, .v (.int k n) => some (.v (.int k (k.wrap (0 - n))))
  | _, _ => none

def D.conv (k : IntKind) (x : D) : Option D :=
  match x with
  | .v (.int _ n) => some (.v (.int k (k.wrap n)))
  | _ => none

def D.lenL (x : D) : Option D :=
  match x with
  | .lst es => some (.v (.int .i64 es.length))
  | .sl _ _ n => some (.v (.int .i64 n))
  | .snil => some (.v (.int .i64 0))
  | _ => none

def D.lenS (x : D) : Option D :=
  match x with
  | .v (.string s) => some (.v (.int .i64 s.size))
  | _ => none

/-- of one cell -/
def D.scal (x : D) : Option D := if x.one = true then some x else none

def D.cell (i : Nat) (x : D) : Option D := x.cells[i]?

def D.part (i n : Nat) (x : D) : Option D :=
  match x with
  | .agg cs => if i + n ≤ cs.length then some (.agg ((cs.drop i).take n)) else none
  | _ => none

/-- the struct, if it has just n cells -/
def D.aggN (n : Nat) (x : D) : Option D :=
  match x with
  | .agg cs => if cs.length = n then some x else none
  | _ => none

def D.idx (x i : D) : Option D :=
  match x, i with
  | .lst es, .v (.int _ n) => if 0 ≤ n then es[n.toNat]? else none
  | _, _ => none

def D.idxN (n : Nat) (x i : D) : Option D := (D.idx x i).bind fun e => if e.cells.length = n then some e else none

def D.cons (x y : D) : Option D :=
  match x, y with
  | .tup _, _ => none
  | x, .agg cs => some (.agg (x.cells ++ cs))
  | _, _ => none

/-- all have so many cells -/
def allCells (size : Nat) (xs : List D) : Bool := xs.all fun e => e.cells.length == size

theorem allCells_get {size : Nat} {xs : List D} (h : allCells size xs = true) {i : Nat} {e : D} (he : xs[i]? = some e) : e.cells.length = size := by
  have := List.all_eq_true.1 h e (List.mem_of_getElem? he)
  simpa using this

/-- 'append': the elements have 'bytes' bytes -/
def D.app (size bytes : Nat) (x y : D) : Option D :=
  match x, y with
  | .lst xs, .lst ys => if (xs.length + ys.length) * bytes ≤ 140737488355328 ∧ xs.length + ys.length ≤ maxLen ∧ allCells size xs = true ∧ allCells size ys = true then some (.lst (xs ++ ys)) else none
  | _, _ => none

def D.lcons (x y : D) : Option D :=
  match y with
  | .lst ys => some (.lst (x :: ys))
  | _ => none

def D.mkptr (x : D) : Option D :=
  match x with
  | .agg cs => some (.ptr cs)
  | _ => none

def D.mkfn (f : FuncId) (x y : D) : Option D :=
  match x, y with
  | .tup ds, .tup es => some (.fn f ds es)
  | _, _ => none

def D.sub (size : Nat) (x lo hi : D) : Option D :=
  match x, lo, hi with
  | .lst es, .v (.int _ l), .v (.int _ h) => if 0 ≤ l ∧ l ≤ h ∧ h ≤ (es.length : Int) ∧ allCells size es = true then some (.lst ((es.drop l.toNat).take (h - l).toNat)) else none
  | .sl i off len, .v (.int _ l), .v (.int _ h) => if 0 ≤ l ∧ l ≤ h ∧ h ≤ (len : Int) ∧ 0 < size ∧ (l < h ∨ l = 0) then some (.sl i (off + l.toNat * size) (h - l).toNat) else none
  | _, _, _ => none

/-- replace cells of a struct, or the one cell that there is -/
def D.putAt (e : D) (off : Nat) (x : D) : Option D :=
  match e with
  | .agg cs => if off + x.cells.length ≤ cs.length then some (.agg (cs.take off ++ x.cells ++ cs.drop (off + x.cells.length))) else none
  | _ => if off = 0 ∧ x.one = true then some x else none

def D.set (a i : D) (off : Nat) (x : D) : Option D :=
  match a, i with
  | .lst es, .v (.int _ n) => if 0 ≤ n then (es[n.toNat]?).bind fun e => (e.putAt off x).map fun e' => .lst (es.set n.toNat e') else none
  | _, _ => none

def D.tcons (x y : D) : Option D :=
  match y with
  | .tup ds => some (.tup (x :: ds))
  | _ => none

def D.tget (i : Nat) (x : D) : Option D :=
  match x with
  | .tup ds => ds[i]?
  | _ => none

/-- 'make([]T, n)': the elements have 'bytes' bytes -/
def D.rep (bytes : Nat) (n : D) (d : D) : Option D :=
  match n with
  | .v (.int .i64 k) => if 0 ≤ k ∧ k.toNat * bytes ≤ 140737488355328 ∧ k.toNat ≤ maxLen then some (.lst (List.replicate k.toNat d)) else none
  | _ => none

def D.deref (x : D) : Option D :=
  match x with
  | .ptr cs => some (.agg cs)
  | _ => none

/-- a pointer to cells further on -/
def D.padd (off : Nat) (x : D) : Option D :=
  match x with
  | .ptr cs => some (.ptr (cs.drop off))
  | .loc i o => some (.loc i (o + off))
  | _ => none

/-- a pointer that is not nil -/
def D.nn (x : D) : Option D :=
  match x with
  | .ptr cs => some (.ptr cs)
  | .loc i o => some (.loc i o)
  | .fn f ds es => some (.fn f ds es)
  | _ => none

/-- a pointer to an element of a slice -/
def D.eaddr (size : Nat) (x i : D) : Option D :=
  match x, i with
  | .lst es, .v (.int _ n) => if 0 ≤ n then (es[n.toNat]?).bind fun e => if e.cells.length = size then some (.ptr e.cells) else none else none
  | .sl j off len, .v (.int _ n) => if 0 ≤ n ∧ n < (len : Int) then some (.loc j (off + n.toNat * size)) else none
  | _, _ => none

/-- the cells of a store's block -/
def D.cellsAt (h : D) (i : Nat) : Option (TypeId × Nat × List D) :=
  match h with
  | .st bs => match bs[i]? with
    | some (.blk e sz cs) => some (e, sz, cs)
    | _ => none
  | _ => none

/-- what lies behind a pointer: one cell, or a struct of n cells -/
def D.ld (agg : Bool) (n : Nat) (h p : D) : Option D :=
  match p with
  | .ptr cs => if agg then (if n ≤ cs.length then some (.agg (cs.take n)) else none) else cs[0]?
  | .loc i off => (D.cellsAt h i).bind fun b => if agg then (if off + n ≤ b.2.2.length then some (.agg ((b.2.2.drop off).take n)) else none) else b.2.2[off]?
  | _ => none

/-- the store, with n other cells at a pointer -/
def D.sto (n : Nat) (h p y : D) : Option D :=
  match p, h with
  | .loc i off, .st bs => (D.cellsAt h i).bind fun b => if y.cells.length = n ∧ off + n ≤ b.2.2.length ∧ y.cells.all (·.one) = true then some (.st (bs.set i (.blk b.1 b.2.1 (b.2.2.take off ++ y.cells ++ b.2.2.drop (off + n))))) else none
  | _, _ => none

/-- the store with a new block -/
def D.newb (e : TypeId) (sz : Nat) (h y : D) : Option D :=
  match h, y with
  | .st bs, .agg cs => if cs.all (·.one) = true then some (.st (bs ++ [.blk e sz cs])) else none
  | _, _ => none

/-- the number of the block that comes next -/
def D.fstid (h : D) : Option D :=
  match h with
  | .st bs => some (.loc bs.length 0)
  | _ => none

/-- the cells of several data, one behind the other -/
def cellsL (es : List D) : List D := es.flatMap D.cells

/-- the store with a new block of elements -/
def D.newv (e : TypeId) (sz : Nat) (h l : D) : Option D :=
  match h, l with
  | .st bs, .lst es => if allCells sz es = true ∧ (cellsL es).all (·.one) = true then some (.st (bs ++ [.blk e sz (cellsL es)])) else none
  | _, _ => none

/-- the slice of the block that comes next -/
def D.fstsl (h l : D) : Option D :=
  match h, l with
  | .st bs, .lst es => some (.sl bs.length 0 es.length)
  | _, _ => none

/-- the store behind an 'append' to a slice of the store: the block has another number -/
def D.apph (e : TypeId) (sz bytes : Nat) (h x y : D) : Option D :=
  match h, x, y with
  | .st bs, .snil, .lst ys => if ys = [] then none else
      if ys.length * bytes ≤ 140737488355328 ∧ ys.length ≤ maxLen ∧ allCells sz ys = true ∧ (cellsL ys).all (·.one) = true then some (.st (bs ++ [.blk e sz (cellsL ys)])) else none
  | .st bs, .sl i off n, .lst ys => if ys = [] then none else
      (D.cellsAt (.st bs) i).bind fun b => if off = 0 ∧ b.1 = e ∧ b.2.1 = sz ∧ b.2.2.length = n * sz ∧ (n + ys.length) * bytes ≤ 140737488355328 ∧ n + ys.length ≤ maxLen ∧ allCells sz ys = true ∧ (cellsL ys).all (·.one) = true then
        some (.st (bs.set i (.tup []) ++ [.blk e sz (b.2.2 ++ cellsL ys)])) else none
  | _, _, _ => none

/-- the slice behind it -/
def D.apps (h x y : D) : Option D :=
  match h, x, y with
  | .st bs, .snil, .lst ys => some (.sl bs.length 0 ys.length)
  | .st bs, .sl _ _ n, .lst ys => some (.sl bs.length 0 (n + ys.length))
  | _, _, _ => none

/-- so many cells at a time -/
def chunks (sz : Nat) : Nat → List D → List (List D)
  | 0, _ => []
  | n + 1, cs => cs.take sz :: chunks sz n (cs.drop sz)

/-- an element's data, by its cells -/
def ofChunk (agg : Bool) (c : List D) : D :=
  match agg, c with
  | false, [d] => d
  | _, c => .agg c

/-- a slice of the store becomes data ... -/
def D.frzv (agg : Bool) (h x : D) : Option D :=
  match h, x with
  | _, .snil => some (.lst [])
  | .st bs, .sl i off n => (D.cellsAt (.st bs) i).bind fun b => if off = 0 ∧ b.2.2.length = n * b.2.1 ∧ 0 < b.2.1 ∧ (agg = true ∨ b.2.1 = 1) ∧ b.2.2.all (·.one) = true then some (.lst ((chunks b.2.1 n b.2.2).map (ofChunk agg))) else none
  | _, .sl _ _ _ => none
  | _, x => some x

/-- ... and its block goes out of the store -/
def D.frzh (h x : D) : Option D :=
  match h, x with
  | .st bs, .sl i _ _ => some (.st (bs.set i (.tup [])))
  | h, _ => some h

def D.mm (max : Bool) (x y : D) : Option D :=
  match x, y with
  | .v (.int k a), .v (.int k' b) => if k = k' then some (.v (.int k (if max then (if b > a then b else a) else (if b < a then b else a)))) else none
  | _, _ => none

/-- do two keys agree? -/
def D.keyEq (kd : Kd) (x y : D) : Option Bool :=
  match D.bin .eql kd x y with
  | some (.v (.bool b)) => some b
  | _ => none

/-- the place of a key among a map's entries, and what is there -/
def D.mfind (kd : Kd) (k : D) : List D → Nat → Option (Option (Nat × D))
  | [], _ => some none
  | .tup [k', u] :: r, i => match D.keyEq kd k k' with
    | some true => some (some (i, u))
    | some false => D.mfind kd k r (i + 1)
    | none => none
  | _ :: _, _ => none

/-- has the key the form of its kind? -/
def D.keyOk (kd : Kd) (k : D) : Bool :=
  match kd, k with
  | .agg ks, .agg cs => cs.length == ks.length
  | .agg _, _ => false
  | _, _ => true

def D.mlook (kd : Kd) (k : D) (kvs : List D) : Option (Option (Nat × D)) := if D.keyOk kd k = true then D.mfind kd k kvs 0 else none

/-- a map's entries -/
def D.entries (h m : D) : Option (List D) :=
  match m with
  | .v (.map none) => some []
  | .mp i => (match h with
    | .st bs => (match bs[i]? with
      | some (.mblk kvs) => some kvs
      | _ => none)
    | _ => none)
  | _ => none

/-- an entry comes, or is another -/
def D.mput (kd : Kd) (h m k u : D) : Option D :=
  match m, h with
  | .mp i, .st bs => (match bs[i]? with
    | some (.mblk kvs) => (D.mlook kd k kvs).map fun r => match r with
      | none => .st (bs.set i (.mblk (kvs ++ [.tup [k, u]])))
      | some (j, _) => .st (bs.set i (.mblk (kvs.set j (.tup [k, u]))))
    | _ => none)
  | _, _ => none

/-- an entry goes -/
def D.mdel (kd : Kd) (h m k : D) : Option D :=
  match m, h with
  | .v (.map none), h => some h
  | .mp i, .st bs => (match bs[i]? with
    | some (.mblk kvs) => (D.mlook kd k kvs).map fun r => match r with
      | none => .st bs
      | some (j, _) => .st (bs.set i (.mblk (kvs.eraseIdx j)))
    | _ => none)
  | _, _ => none

def Value.same : Value → Value → Bool
  | .bool a, .bool b => a == b
  | .int k a, .int k' b => decide (k = k') && decide (a = b)
  | .string a, .string b => decide (a.data = b.data)
  | .pointer none, .pointer none => true
  | .map none, .map none => true
  | .nilFunc, .nilFunc => true
  | .nilIface, .nilIface => true
  | _, _ => false

theorem Value.same_eq {a b : Value} (h : Value.same a b = true) : a = b := by
  unfold Value.same at h
  split at h <;> first
    | rfl
    | (simp only [beq_iff_eq] at h; rw [h])
    | (simp only [Bool.and_eq_true, decide_eq_true_eq] at h; rw [h.1, h.2])
    | (rename_i x y; simp only [decide_eq_true_eq] at h; cases x; cases y; simp only at h; rw [h])
    | cases h

mutual
def D.same : D → D → Bool
  | .v a, .v b => Value.same a b
  | .agg a, .agg b => D.sames a b
  | .lst a, .lst b => D.sames a b
  | .tup a, .tup b => D.sames a b
  | .ptr a, .ptr b => D.sames a b
  | .snil, .snil => true
  | .loc i o, .loc i' o' => decide (i = i') && decide (o = o')
  | .sl i o n, .sl i' o' n' => decide (i = i') && decide (o = o') && decide (n = n')
  | .mp i, .mp i' => decide (i = i')
  | .ifc t a, .ifc t' b => decide (t = t') && D.same a b
  | .fn f a b, .fn g c d => decide (f = g) && D.sames a c && D.sames b d
  | .blk e s a, .blk e' s' b => decide (e = e') && decide (s = s') && D.sames a b
  | .mblk a, .mblk b => D.sames a b
  | .st a, .st b => D.sames a b
  | _, _ => false
def D.sames : List D → List D → Bool
  | [], [] => true
  | a :: r, b :: s => a.same b && D.sames r s
  | _, _ => false
end

mutual
theorem D.same_eq : ∀ {a b : D}, D.same a b = true → a = b
  | .v a, b, h => by cases b <;> first | exact congrArg D.v (Value.same_eq (by simpa [D.same] using h)) | simp [D.same] at h
  | .agg a, b, h => by cases b <;> first | exact congrArg D.agg (D.sames_eq (by simpa [D.same] using h)) | simp [D.same] at h
  | .lst a, b, h => by cases b <;> first | exact congrArg D.lst (D.sames_eq (by simpa [D.same] using h)) | simp [D.same] at h
  | .tup a, b, h => by cases b <;> first | exact congrArg D.tup (D.sames_eq (by simpa [D.same] using h)) | simp [D.same] at h
  | .ptr a, b, h => by cases b <;> first | exact congrArg D.ptr (D.sames_eq (by simpa [D.same] using h)) | simp [D.same] at h
  | .snil, b, h => by cases b <;> first | rfl | simp [D.same] at h
  | .loc _ _, b, h => by cases b <;> first | (simp only [D.same, Bool.and_eq_true, decide_eq_true_eq] at h; rw [h.1, h.2]) | simp [D.same] at h
  | .sl _ _ _, b, h => by cases b <;> first | (simp only [D.same, Bool.and_eq_true, decide_eq_true_eq] at h; rw [h.1.1, h.1.2, h.2]) | simp [D.same] at h
  | .mp _, b, h => by cases b <;> first | (simp only [D.same, decide_eq_true_eq] at h; rw [h]) | simp [D.same] at h
  | .ifc t a, b, h => by cases b <;> first | (simp only [D.same, Bool.and_eq_true, decide_eq_true_eq] at h; rw [h.1, D.same_eq h.2]) | simp [D.same] at h
  | .fn f a b, c, h => by
    cases c <;> first | (simp only [D.same, Bool.and_eq_true, decide_eq_true_eq] at h; rw [h.1.1, D.sames_eq h.1.2, D.sames_eq h.2]) | simp [D.same] at h
  | .blk _ _ _, b, h => by cases b <;> first | (simp only [D.same, Bool.and_eq_true, decide_eq_true_eq] at h; rw [h.1.1, h.1.2, D.sames_eq h.2]) | simp [D.same] at h
  | .mblk a, b, h => by cases b <;> first | exact congrArg D.mblk (D.sames_eq (by simpa [D.same] using h)) | simp [D.same] at h
  | .st a, b, h => by cases b <;> first | exact congrArg D.st (D.sames_eq (by simpa [D.same] using h)) | simp [D.same] at h
  | .yl _ _ _ _, _, h => by simp [D.same] at h
theorem D.sames_eq : ∀ {a b : List D}, D.sames a b = true → a = b
  | [], [], _ => rfl
  | a :: r, b :: s, h => by
    simp only [D.sames, Bool.and_eq_true] at h
    rw [D.same_eq h.1, D.sames_eq h.2]
  | [], _ :: _, h | _ :: _, [], h => by simp [D.sames] at h
end

def D.m4 (op : MOp) (a b c d : D) : Option D :=
  match op with
  | .newm => (match a with | .st bs => some (.st (bs ++ [.mblk []])) | _ => none)
  | .fstm => (match a with | .st bs => some (.mp bs.length) | _ => none)
  | .get kd g => (D.entries a b).bind fun kvs => (D.mlook kd c kvs).bind fun r =>
      let x := match r with | some (_, u) => u | none => d
      if g = true ∨ x.one = true then some x else none
  | .getok kd => (D.entries a b).bind fun kvs => (D.mlook kd c kvs).map fun r => match r with | some (_, u) => .tup [u, .bool true] | none => .tup [d, .bool false]
  | .put kd => D.mput kd a b c d
  | .del kd => D.mdel kd a b c
  | .mlen => (D.entries a b).map fun kvs => .int kvs.length
  | .ifnil neg => (match a with | .ifc _ _ => some (.bool neg) | .v .nilIface => some (.bool (!neg)) | _ => none)
  | .tassert t => (match a with | .ifc t' x => some (if t' = t then .tup [x, .bool true] else .tup [b, .bool false]) | .v .nilIface => some (.tup [b, .bool false]) | _ => none)
  | .isifc => (match a with | .ifc t x => some (.ifc t x) | _ => none)
  | .same => if D.same a b = true then some a else none

/-- what a slot holds that was passed over -/
abbrev D.undef : D := .tup []

def E.eval (env : List D) : E → Option D
  | .sym k => env[k]?
  | .const d => some d
  | .bin op kd a b => (a.eval env).bind fun x => (b.eval env).bind fun y => D.bin op kd x y
  | .un op a => (a.eval env).bind (D.un op)
  | .conv k a => (a.eval env).bind (D.conv k)
  | .lenL a => (a.eval env).bind D.lenL
  | .lenS a => (a.eval env).bind D.lenS
  | .scal a => (a.eval env).bind D.scal
  | .cell i a => (a.eval env).bind (D.cell i)
  | .cells i n a => (a.eval env).bind (D.part i n)
  | .aggN n a => (a.eval env).bind (D.aggN n)
  | .idx a i => (a.eval env).bind fun x => (i.eval env).bind fun y => D.idx x y
  | .idxN n a i => (a.eval env).bind fun x => (i.eval env).bind fun y => D.idxN n x y
  | .nil => some (.agg [])
  | .cons a b => (a.eval env).bind fun x => (b.eval env).bind fun y => D.cons x y
  | .one a => (a.eval env).map fun x => .lst [x]
  | .app n m a b => (a.eval env).bind fun x => (b.eval env).bind fun y => D.app n m x y
  | .lcons a b => (a.eval env).bind fun x => (b.eval env).bind fun y => D.lcons x y
  | .mkptr a => (a.eval env).bind D.mkptr
  | .mkfn f a b => (a.eval env).bind fun x => (b.eval env).bind fun y => D.mkfn f x y
  | .sub n a l h => (a.eval env).bind fun x => (l.eval env).bind fun y => (h.eval env).bind fun z => D.sub n x y z
  | .set a i off x => (a.eval env).bind fun l => (i.eval env).bind fun n => (x.eval env).bind fun y => D.set l n off y
  | .ite g a b => match g.eval env with
    | some (.v (.bool true)) => a.eval env
    | some (.v (.bool false)) => b.eval env
    | _ => none
  | .guard g want a => match g.eval env with
    | some (.v (.bool b)) => if b = want then a.eval env else some D.undef
    | _ => none
  | .tnil => some (.tup [])
  | .tcons a b => (a.eval env).bind fun x => (b.eval env).bind fun y => D.tcons x y
  | .tget i a => (a.eval env).bind (D.tget i)
  | .rep b n d => (n.eval env).bind fun x => D.rep b x d
  | .deref a => (a.eval env).bind D.deref
  | .ifc t a => (a.eval env).map (.ifc t)
  | .mm m a b => (a.eval env).bind fun x => (b.eval env).bind fun y => D.mm m x y
  | .padd k a => (a.eval env).bind (D.padd k)
  | .nn a => (a.eval env).bind D.nn
  | .eaddr n a b => (a.eval env).bind fun x => (b.eval env).bind fun y => D.eaddr n x y
  | .ld g n a b => (a.eval env).bind fun x => (b.eval env).bind fun y => D.ld g n x y
  | .sto n a b c => (a.eval env).bind fun x => (b.eval env).bind fun y => (c.eval env).bind fun z => D.sto n x y z
  | .newb e n a b => (a.eval env).bind fun x => (b.eval env).bind fun y => D.newb e n x y
  | .fstid a => (a.eval env).bind D.fstid
  | .newv e n a b => (a.eval env).bind fun x => (b.eval env).bind fun y => D.newv e n x y
  | .fstsl a b => (a.eval env).bind fun x => (b.eval env).bind fun y => D.fstsl x y
  | .apph e n m a b c => (a.eval env).bind fun x => (b.eval env).bind fun y => (c.eval env).bind fun z => D.apph e n m x y z
  | .apps a b c => (a.eval env).bind fun x => (b.eval env).bind fun y => (c.eval env).bind fun z => D.apps x y z
  | .frzv g a b => (a.eval env).bind fun x => (b.eval env).bind fun y => D.frzv g x y
  | .frzh a b => (a.eval env).bind fun x => (b.eval env).bind fun y => D.frzh x y
  | .m4 op a b c d => (a.eval env).bind fun x => (b.eval env).bind fun y => (c.eval env).bind fun z => (d.eval env).bind fun u => D.m4 op x y z u

/-- More data behind the environment changes nothing. -/
theorem E.eval_mono {env env' : List D} (h : env <+: env') : ∀ (x : E) {d : D}, x.eval env = some d → x.eval env' = some d := by
  obtain ⟨r, rfl⟩ := h
  intro x
  induction x <;> intro d hd <;> simp only [E.eval, Option.bind_eq_some_iff, Option.map_eq_some_iff] at hd ⊢
  case sym k =>
    have hk : k < env.length := (List.getElem?_eq_some_iff.1 hd).1
    rw [List.getElem?_append_left hk]
    exact hd
  case ite c a b hc ha hb =>
    cases h : c.eval env with
    | none => simp [h] at hd
    | some y =>
      rw [hc h]
      rw [h] at hd
      split at hd <;> first | (rename_i e; cases e; exact ha hd) | (rename_i e; cases e; exact hb hd) | simp at hd
  case guard c want a hc ha =>
    cases h : c.eval env with
    | none => simp [h] at hd
    | some y =>
      rw [hc h]
      rw [h] at hd
      split at hd
      · rename_i e
        cases e
        split at hd
        · rename_i hb; rw [if_pos hb]; exact ha hd
        · rename_i hb; rw [if_neg hb]; exact hd
      · simp at hd
  all_goals first
    | exact hd
    | (rename_i ha; obtain ⟨x, h1, h2⟩ := hd; exact ⟨x, ha h1, h2⟩)
    | (rename_i ha hb; obtain ⟨x, h1, y, h2, h3⟩ := hd; exact ⟨x, ha h1, y, hb h2, h3⟩)
    | (rename_i ha hb hc; obtain ⟨x, h1, y, h2, z, h3, h4⟩ := hd; exact ⟨x, ha h1, y, hb h2, z, hc h3, h4⟩)
    | (rename_i ha hb hc he; obtain ⟨x, h1, y, h2, z, h3, u, h4, h5⟩ := hd; exact ⟨x, ha h1, y, hb h2, z, hc h3, u, he h4, h5⟩)

end Go.Am
