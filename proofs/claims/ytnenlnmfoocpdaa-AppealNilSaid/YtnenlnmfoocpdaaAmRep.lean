/-
  Symbolic values and states of a frame; what it means that a frame and a world are as a symbolic state says.
-/
import Derived.Test.YtnenlnmfoocpdaaAmBase
set_option linter.unusedSimpArgs false
set_option linter.unusedVariables false
namespace Go.Am

/-- what a slot holds, symbolically ('e x s': the data that x stands for; s: it is known to be of one cell) -/
inductive SV where
  | junk
  | e (x : E) (s : Bool)
  | agg (cs : List SV)
  | tup (vs : List SV)
  | addr (o off : Nat)
  | eaddr (o : Nat) (i : E) (size off : Nat)
  | iptr (x : E) (off : Nat)
  | own (x : E) (k : Nat)
  | slc (o : Nat)
  | func (fn : Fn) (cap : List SV)
  | cond (act : List (E × Bool)) (sv : SV)
  deriving Inhabited

/-- what is known of the store: is it only read; which functions may write it; which variables lie in it; which closures' variables nobody writes -/
structure StCfg where
  ro : Bool
  wr : List Nat
  pubs : List Nat
  dats : List Nat
  pan : List Nat
  frzs : List (Nat × Nat)
  /-- slots whose values a panic tells -/
  keep : List Nat := []
  /-- missing fields of a literal: nil slices that may grow in the store -/
  nils : Bool := false
  deriving Inhabited, DecidableEq

/-- the object that stands for the store -/
def HID : Nat := 1000000

/-- an object of the call's own: a variable whose cells are known; a row that is written by index; the right to append to a slice -/
inductive SObj where
  | box (cs : List SV)
  | row (x : E) (size : Nat)
  | tok (elem : TypeId) (size : Nat)
  | store (cf : StCfg) (x : E)
  deriving Inhabited

def SObj.ro : SObj → Bool
  | .store cf _ => cf.ro
  | _ => false

structure SState where
  tmps : List SV
  mem : List (Option SObj)
  hs : Option SObj
  deriving Inhabited

def SState.tmp (σ : SState) (t : Nat) : SV := σ.tmps.getD t .junk
def SState.obj (σ : SState) (o : Nat) : Option SObj := if o = HID then σ.hs else σ.mem.getD o none
def SState.put (σ : SState) (dst : Option Tmp) (sv : SV) : SState := match dst with | some d => { σ with tmps := σ.tmps.set d sv } | none => σ
def SState.setObj (σ : SState) (o : Nat) (x : Option SObj) : SState := if o = HID then { σ with hs := x } else { σ with mem := σ.mem.set o x }

/-- where the objects lie; which cells nobody writes any more -/
structure Rho where
  blk : Nat → Nat
  val : Nat → Value
  S : Sets
  foot : Nat → Prop

def actHolds (env : List D) (act : List (E × Bool)) : Prop := ∀ p, p ∈ act → p.1.eval env = some (.bool p.2)

inductive SRd (w : World) (ρ : Rho) (env : List D) : Value → SV → Prop
  | junk {v : Value} : SRd w ρ env v .junk
  | e {v : Value} {x : E} {s : Bool} {d : D} (hx : x.eval env = some d) (h : RdD w ρ.S v d) (h1 : s = true → d.one = true) : SRd w ρ env v (.e x s)
  | agg {vs : Array Value} {cs : List SV} (hl : vs.size = cs.length) (ho : ∀ (i : Nat) (v : Value), vs[i]? = some v → v.oneCell' = true)
      (h : ∀ (i : Nat) (v : Value) (c : SV), vs[i]? = some v → cs[i]? = some c → SRd w ρ env v c) : SRd w ρ env (.agg vs) (.agg cs)
  | tup {vs : Array Value} {cs : List SV} (hl : vs.size = cs.length)
      (h : ∀ (i : Nat) (v : Value) (c : SV), vs[i]? = some v → cs[i]? = some c → SRd w ρ env v c) : SRd w ρ env (.tuple vs) (.tup cs)
  | addr {o off : Nat} : SRd w ρ env (.pointer (some ⟨ρ.blk o, off, none⟩)) (.addr o off)
  | eaddr {o size off n : Nat} {x : E} {k : IntKind} (hx : x.eval env = some (.v (.int k n))) : SRd w ρ env (.pointer (some ⟨ρ.blk o, n * size + off, none⟩)) (.eaddr o x size off)
  | iptr {v : Value} {x : E} {off : Nat} {d : D} (hx : x.eval env = some d) (h : RdD w ρ.S v (.ptr (d.cells.drop off))) : SRd w ρ env v (.iptr x off)
  | own {v : Value} {x : E} {k : Nat} {es : List D} (hx : x.eval env = some (.lst es)) (h : RdD w ρ.S v (.lst es)) (hv : v = ρ.val k) : SRd w ρ env v (.own x k)
  | slc {o : Nat} : SRd w ρ env (ρ.val o) (.slc o)
  | func {fn : Fn} {vs : Array Value} {cs : List SV} (hl : vs.size = cs.length)
      (h : ∀ (i : Nat) (v : Value) (c : SV), vs[i]? = some v → cs[i]? = some c → SRd w ρ env v c) : SRd w ρ env (.func fn #[] vs) (.func fn cs)
  | cond {v : Value} {act : List (E × Bool)} {sv : SV} (hd : ∀ p, p ∈ act → ∃ d, p.1.eval env = some d) (h : actHolds env act → SRd w ρ env v sv) (hn : ¬ actHolds env act → v = undef) : SRd w ρ env v (.cond act sv)

section
variable {w : World} {ρ : Rho} {env : List D} {v : Value}
theorem SRd.e_inv {x : E} {s : Bool} (h : SRd w ρ env v (.e x s)) : ∃ d, x.eval env = some d ∧ RdD w ρ.S v d ∧ (s = true → d.one = true) := by
  generalize hs : SV.e x s = sv at h
  cases h <;> cases hs
  exact ⟨_, by assumption, by assumption, by assumption⟩
theorem SRd.agg_inv {cs : List SV} (h : SRd w ρ env v (.agg cs)) : ∃ vs : Array Value, v = .agg vs ∧ vs.size = cs.length ∧ (∀ (i : Nat) (v : Value), vs[i]? = some v → v.oneCell' = true) ∧ ∀ (i : Nat) (v : Value) (c : SV), vs[i]? = some v → cs[i]? = some c → SRd w ρ env v c := by
  generalize hs : SV.agg cs = sv at h
  cases h <;> cases hs
  exact ⟨_, rfl, by assumption, by assumption, by assumption⟩
theorem SRd.tup_inv {cs : List SV} (h : SRd w ρ env v (.tup cs)) : ∃ vs : Array Value, v = .tuple vs ∧ vs.size = cs.length ∧ ∀ (i : Nat) (v : Value) (c : SV), vs[i]? = some v → cs[i]? = some c → SRd w ρ env v c := by
  generalize hs : SV.tup cs = sv at h
  cases h <;> cases hs
  exact ⟨_, rfl, by assumption, by assumption⟩
theorem SRd.addr_inv {o off : Nat} (h : SRd w ρ env v (.addr o off)) : v = .pointer (some ⟨ρ.blk o, off, none⟩) := by
  generalize hs : SV.addr o off = sv at h
  cases h <;> cases hs
  rfl
theorem SRd.eaddr_inv {o size off : Nat} {x : E} (h : SRd w ρ env v (.eaddr o x size off)) : ∃ (n : Nat) (k : IntKind), x.eval env = some (.v (.int k n)) ∧ v = .pointer (some ⟨ρ.blk o, n * size + off, none⟩) := by
  generalize hs : SV.eaddr o x size off = sv at h
  cases h <;> cases hs
  exact ⟨_, _, by assumption, rfl⟩
theorem SRd.iptr_inv {off : Nat} {x : E} (h : SRd w ρ env v (.iptr x off)) : ∃ d, x.eval env = some d ∧ RdD w ρ.S v (.ptr (d.cells.drop off)) := by
  generalize hs : SV.iptr x off = sv at h
  cases h <;> cases hs
  exact ⟨_, by assumption, by assumption⟩
theorem SRd.own_inv {k : Nat} {x : E} (h : SRd w ρ env v (.own x k)) : ∃ es, x.eval env = some (.lst es) ∧ RdD w ρ.S v (.lst es) ∧ v = ρ.val k := by
  generalize hs : SV.own x k = sv at h
  cases h <;> cases hs
  exact ⟨_, by assumption, by assumption, by assumption⟩
theorem SRd.slc_inv {o : Nat} (h : SRd w ρ env v (.slc o)) : v = ρ.val o := by
  generalize hs : SV.slc o = sv at h
  cases h <;> cases hs
  rfl
theorem SRd.func_inv {fn : Fn} {cs : List SV} (h : SRd w ρ env v (.func fn cs)) : ∃ vs : Array Value, v = .func fn #[] vs ∧ vs.size = cs.length ∧ ∀ (i : Nat) (v : Value) (c : SV), vs[i]? = some v → cs[i]? = some c → SRd w ρ env v c := by
  generalize hs : SV.func fn cs = sv at h
  cases h <;> cases hs
  exact ⟨_, rfl, by assumption, by assumption⟩
theorem SRd.cond_inv {act : List (E × Bool)} {sv : SV} (h : SRd w ρ env v (.cond act sv)) : (∀ p, p ∈ act → ∃ d, p.1.eval env = some d) ∧ (actHolds env act → SRd w ρ env v sv) ∧ (¬ actHolds env act → v = undef) := by
  generalize hs : SV.cond act sv = sv' at h
  cases h <;> cases hs
  exact ⟨by assumption, by assumption, by assumption⟩
end

mutual
def SV.avoids (o : Nat) : SV → Bool
  | .junk | .e _ _ | .iptr _ _ => true
  | .agg cs | .tup cs => SV.avoidsAll o cs
  | .func _ cs => SV.avoidsAll o cs
  | .addr o' _ | .eaddr o' _ _ _ | .own _ o' | .slc o' => o' != o
  | .cond _ sv => sv.avoids o
def SV.avoidsAll (o : Nat) : List SV → Bool
  | [] => true
  | s :: r => s.avoids o && SV.avoidsAll o r
end

theorem SV.avoidsAll_get {o : Nat} : ∀ {cs : List SV} {i : Nat} {c : SV}, SV.avoidsAll o cs = true → cs[i]? = some c → c.avoids o = true
  | [], i, c, _, h => by simp at h
  | s :: r, 0, c, h, hi => by simp [SV.avoidsAll] at h hi; exact hi ▸ h.1
  | s :: r, i + 1, c, h, hi => by simp [SV.avoidsAll] at h hi; exact SV.avoidsAll_get h.2 hi

def SObj.avoids (o : Nat) : SObj → Bool
  | .box cs => SV.avoidsAll o cs
  | .row _ _ | .tok _ _ | .store _ _ => true

/-- ρ' is ρ but for the objects that 'ex' names, and with more cells that nobody writes. -/
structure Rho.Le (ρ ρ' : Rho) (ex : Nat → Prop) : Prop where
  blk : ∀ o, ¬ ex o → ρ'.blk o = ρ.blk o
  val : ∀ o, ¬ ex o → ρ'.val o = ρ.val o
  S : ρ.S ≤ ρ'.S

/-- ... and the store's blocks are the same, if the store is not named. -/
structure Rho.More (ρ ρ' : Rho) (ex : Nat → Prop) : Prop extends Rho.Le ρ ρ' ex where
  n : ¬ ex HID → ρ'.S.n = ρ.S.n
  foot : ¬ ex HID → ρ'.foot = ρ.foot

theorem Rho.More.refl (ρ : Rho) (ex : Nat → Prop) : ρ.More ρ ex := ⟨⟨fun _ _ => rfl, fun _ _ => rfl, Sets.le_refl _⟩, fun _ => rfl, fun _ => rfl⟩

theorem actHolds_mono {env env' : List D} (h : env <+: env') {act : List (E × Bool)} (hd : ∀ p, p ∈ act → ∃ d, p.1.eval env = some d) (ha : actHolds env' act) : actHolds env act := by
  intro p hp
  obtain ⟨b, hb⟩ := hd p hp
  have h1 := ha p hp
  rw [E.eval_mono h _ hb] at h1
  rw [hb]; exact h1

theorem actHolds_up {env env' : List D} (h : env <+: env') {act : List (E × Bool)} (ha : actHolds env act) : actHolds env' act := fun p hp => E.eval_mono h _ (ha p hp)

/-- More data in the environment. -/
theorem SRd.env {w : World} {ρ : Rho} {env env' : List D} {v : Value} {sv : SV} (h : SRd w ρ env v sv) (he : env <+: env') : SRd w ρ env' v sv := by
  induction h with
  | junk => exact .junk
  | e hx h h1 => exact .e (E.eval_mono he _ hx) h h1
  | agg hl ho _ ih => exact .agg hl ho ih
  | tup hl _ ih => exact .tup hl ih
  | addr => exact .addr
  | eaddr hx => exact .eaddr (E.eval_mono he _ hx)
  | iptr hx h => exact .iptr (E.eval_mono he _ hx) h
  | own hx h hv => exact .own (E.eval_mono he _ hx) h hv
  | slc => exact .slc
  | func hl _ ih => exact .func hl ih
  | cond hd _ hn ih => exact .cond (fun p hp => let ⟨d, h⟩ := hd p hp; ⟨d, E.eval_mono he _ h⟩) (fun ha => ih (actHolds_mono he hd ha)) fun ha => hn fun h => ha (actHolds_up he h)

/-- A symbolic value still fits: another world that keeps the cells, other places for objects that it doesn't name. -/
theorem SRd.keepL {w w' : World} {ρ ρ' : Rho} {ex : Nat → Prop} {env : List D} {v : Value} {sv : SV} (h : SRd w ρ env v sv) (hk : Keeps ρ.S w w') (hm : ρ.Le ρ' ex) (ha : ∀ o, ex o → sv.avoids o = true) : SRd w' ρ' env v sv := by
  induction h with
  | junk => exact .junk
  | e hx h h1 => exact .e hx (h.keep hk hm.S) h1
  | agg hl ho _ ih => exact .agg hl ho fun i v c h1 h2 => ih i v c h1 h2 fun o ho => SV.avoidsAll_get (by simpa [SV.avoids] using ha o ho) h2
  | tup hl _ ih => exact .tup hl fun i v c h1 h2 => ih i v c h1 h2 fun o ho => SV.avoidsAll_get (by simpa [SV.avoids] using ha o ho) h2
  | @addr o off =>
    rw [← hm.blk o (fun ho => by have := ha o ho; simp [SV.avoids] at this)]
    exact .addr
  | @eaddr o size off n x k hx =>
    rw [← hm.blk o (fun ho => by have := ha o ho; simp [SV.avoids] at this)]
    exact .eaddr hx
  | iptr hx h => exact .iptr hx (h.keep hk hm.S)
  | @own v x k es hx h hv => exact .own hx (h.keep hk hm.S) (hv.trans (hm.val k (fun ho => by have := ha k ho; simp [SV.avoids] at this)).symm)
  | @slc o =>
    rw [← hm.val o (fun ho => by have := ha o ho; simp [SV.avoids] at this)]
    exact .slc
  | func hl _ ih => exact .func hl fun i v c h1 h2 => ih i v c h1 h2 fun o ho => SV.avoidsAll_get (by simpa [SV.avoids] using ha o ho) h2
  | cond hd _ hn ih => exact .cond hd (fun hh => ih hh fun o ho => by simpa [SV.avoids] using ha o ho) hn

theorem SRd.keep {w w' : World} {ρ ρ' : Rho} {ex : Nat → Prop} {env : List D} {v : Value} {sv : SV} (h : SRd w ρ env v sv) (hk : Keeps ρ.S w w') (hm : ρ.More ρ' ex) (ha : ∀ o, ex o → sv.avoids o = true) : SRd w' ρ' env v sv := h.keepL hk hm.toLe ha

/-- the blocks of an object -/
def objBlk (ρ : Rho) (o : Nat) : SObj → Nat → Prop
  | .box _, b | .row _ _, b => ρ.blk o = b
  | .tok _ _, b => (ρ.val o).ownBlock = some b
  | .store _ _, b => ρ.foot b

/-- the store's blocks in memory -/
structure StOk (w : World) (S : Sets) (foot : Nat → Prop) (bs : List D) : Prop where
  n : S.n = bs.length
  cells : ∀ (i : Nat) (e : TypeId) (sz : Nat) (cs : List D), bs[i]? = some (.blk e sz cs) → foot (S.loc i) ∧ ∃ vs : Array Value, w.heap[S.loc i]? = some (.cells vs e (0, 0)) ∧ vs.size = S.cap i * sz ∧ cs.length ≤ vs.size ∧
    (∀ (j : Nat) (d : D), cs[j]? = some d → d.one = true) ∧ (∀ (j : Nat) (v : Value) (d : D), vs[j]? = some v → cs[j]? = some d → RdD w S v d) ∧ ∀ off, ¬ S (S.loc i) off
  nos : ∀ b off, foot b → ¬ S b off
  maps : ∀ (i : Nat) (kvs : List D), bs[i]? = some (.mblk kvs) → foot (S.loc i) ∧ ∃ (es : Array MapEntry) (clock : Nat), w.heap[S.loc i]? = some (.map es clock) ∧ es.size = kvs.length ∧ (∀ off, ¬ S (S.loc i) off) ∧
    ∀ (j : Nat) (e : MapEntry) (kv : D), es[j]? = some e → kvs[j]? = some kv → ∃ dk dv, kv = .tup [dk, dv] ∧ RdD w S e.key dk ∧ RdD w S e.val dv
  inj : ∀ (i j : Nat) (x y : D), bs[i]? = some x → bs[j]? = some y → x.live = true → y.live = true → S.loc i = S.loc j → i = j

theorem StOk.live_foot {w : World} {S : Sets} {foot : Nat → Prop} {bs : List D} (h : StOk w S foot bs) {i : Nat} {x : D} (hi : bs[i]? = some x) (hx : x.live = true) : foot (S.loc i) := by
  cases x <;> simp [D.live] at hx
  · exact (h.cells i _ _ _ hi).1
  · exact (h.maps i _ hi).1

def ObjOk (w : World) (ρ : Rho) (env : List D) (o : Nat) : SObj → Prop
  | .box cs => ∃ (vs : Array Value) (ty : TypeId), w.heap[ρ.blk o]? = some (.cells vs ty (0, 0)) ∧ vs.size = cs.length ∧ (∀ (i : Nat) (v : Value), vs[i]? = some v → v.oneCell' = true) ∧
      (∀ (i : Nat) (v : Value) (c : SV), vs[i]? = some v → cs[i]? = some c → SRd w ρ env v c) ∧ ∀ off, ¬ ρ.S (ρ.blk o) off
  | .row x size => ∃ (vs : Array Value) (ty : TypeId) (es : List D), w.heap[ρ.blk o]? = some (.cells vs ty (0, 0)) ∧ x.eval env = some (.lst es) ∧ (∀ (i : Nat) (e : D), es[i]? = some e → e.cells.length = size) ∧
      vs.size = es.length * size ∧ (∀ (i : Nat) (e : D) (j : Nat) (d : D), es[i]? = some e → e.cells[j]? = some d → d.one = true ∧ ∃ v, vs[i * size + j]? = some v ∧ RdD w ρ.S v d) ∧
      ρ.val o = .slice (some ⟨ρ.blk o, 0, none⟩) es.length es.length ∧ es.length ≤ maxLen ∧ ∀ off, ¬ ρ.S (ρ.blk o) off
  | .store _ x => ∃ bs, x.eval env = some (.st bs) ∧ StOk w ρ.S ρ.foot bs ∧ o = HID
  | .tok e size => ∃ (n : Nat) (xs : List Value), w.ownsRow 0 e size (ρ.val o) n xs ∧ ∀ b, (ρ.val o).ownBlock = some b → ∀ off, n * size ≤ off → ¬ ρ.S b off

/-- what was there when the call began: the blocks that the call may write; the cells that nobody writes -/
structure Ent where
  may : Nat → Prop
  S : Sets
  foot : Nat → Prop
  dfs : List Deferred := []

/-- The frame's slots and the world are as the symbolic state says; 'B': the heap's size when the call began, 'X': the blocks that the call may write though they were there. -/
structure Rep (w0 : World) (X : Ent) (w : World) (a : Act) (σ : SState) (env : List D) (ρ : Rho) : Prop where
  size : a.tmps.size = σ.tmps.length
  tmps : ∀ t, SRd w ρ env (a.tmps.getD t undef) (σ.tmp t)
  objs : ∀ o x, σ.obj o = some x → ObjOk w ρ env o x
  inj : ∀ o o' x x' b, σ.obj o = some x → σ.obj o' = some x' → objBlk ρ o x b → objBlk ρ o' x' b → o = o'
  own : ∀ o x b, σ.obj o = some x → objBlk ρ o x b → ((x.ro = true ∧ X.foot b) ∨ w0.heap.size ≤ b ∨ X.may b) ∧ b < w.heap.size
  cells : ∀ b o, ρ.S b o → b < w.heap.size
  os : w.os = w0.os
  tape : w.tape = w0.tape
  output : w.output = w0.output
  grown : w0.heap.size ≤ w.heap.size
  old : ∀ b, b < w0.heap.size → ¬ X.may b → w.heap[b]? = w0.heap[b]?
  sub : X.S ≤ ρ.S
  new : ∀ b o, ρ.S b o → X.S b o ∨ w0.heap.size ≤ b ∨ X.may b
  nod : a.defers = X.dfs
  hold : ∀ l rec, X.S.hold l = some rec → w0.heap[l]? = some (.loop rec) ∧ ¬ X.may l ∧ ¬ X.foot l

theorem ObjOk.env {w : World} {ρ : Rho} {env env' : List D} {o : Nat} {x : SObj} (h : ObjOk w ρ env o x) (he : env <+: env') : ObjOk w ρ env' o x := by
  cases x with
  | box cs =>
    obtain ⟨vs, ty, h1, h2, h3, h4, h5⟩ := h
    exact ⟨vs, ty, h1, h2, h3, fun i v c hv hc => (h4 i v c hv hc).env he, h5⟩
  | row x size =>
    obtain ⟨vs, ty, es, h1, h2, h3⟩ := h
    exact ⟨vs, ty, es, h1, E.eval_mono he _ h2, h3⟩
  | tok e size => exact h
  | store ro x =>
    obtain ⟨bs, h1, h2⟩ := h
    exact ⟨bs, E.eval_mono he _ h1, h2⟩

theorem Rep.env {w0 : World} {X : Ent} {w : World} {a : Act} {σ : SState} {env env' : List D} {ρ : Rho} (h : Rep w0 X w a σ env ρ) (he : env <+: env') : Rep w0 X w a σ env' ρ :=
  ⟨h.size, fun t => (h.tmps t).env he, fun o x hx => (h.objs o x hx).env he, h.inj, h.own, h.cells, h.os, h.tape, h.output, h.grown, h.old, h.sub, h.new, h.nod, h.hold⟩

theorem SState.tmp_put {σ : SState} {d : Nat} {sv : SV} (hd : d < σ.tmps.length) (t : Nat) : (σ.put (some d) sv).tmp t = if t = d then sv else σ.tmp t := by
  simp only [SState.put, SState.tmp, List.getD_eq_getElem?_getD, List.getElem?_set]
  by_cases h : d = t
  · subst h; simp [hd]
  · simp [h, Ne.symm h]

theorem SState.obj_put (σ : SState) (dst : Option Tmp) (sv : SV) (o : Nat) : (σ.put dst sv).obj o = σ.obj o := by
  cases dst <;> rfl

theorem SState.obj_setObj' {σ : SState} {o : Nat} {x : Option SObj} (ho : o = HID ∨ o < σ.mem.length) (o' : Nat) : (σ.setObj o x).obj o' = if o' = o then x else σ.obj o' := by
  unfold SState.setObj SState.obj
  by_cases hh : o = HID
  · subst hh
    simp only [if_true]
    split <;> rfl
  · have ho := ho.resolve_left hh
    simp only [hh, if_false, List.getD_eq_getElem?_getD, List.getElem?_set]
    by_cases h : o = o'
    · subst h; simp [ho, hh]
    · simp [h, Ne.symm h]

theorem SState.obj_setObj {σ : SState} {o : Nat} {x : Option SObj} (ho : o < σ.mem.length) (o' : Nat) : (σ.setObj o x).obj o' = if o' = o then x else σ.obj o' := SState.obj_setObj' (.inr ho) o'

/-- Wherever it is set, an object that is not the one that is set is as it was. -/
theorem SState.obj_setObj_ne (σ : SState) {o o' : Nat} (x : Option SObj) (h : o' ≠ o) : (σ.setObj o x).obj o' = σ.obj o' := by
  unfold SState.setObj SState.obj
  by_cases hh : o = HID
  · subst hh
    simp [h]
  · simp only [hh, if_false, List.getD_eq_getElem?_getD, List.getElem?_set]
    simp [Ne.symm h]

/-- ... and what stands there is what was set, or nothing. -/
theorem SState.obj_setObj_some {σ : SState} {o o' : Nat} {x : Option SObj} {y : SObj} (h : (σ.setObj o x).obj o' = some y) : (o' = o ∧ x = some y) ∨ (o' ≠ o ∧ σ.obj o' = some y) := by
  by_cases e : o' = o
  · subst e
    refine .inl ⟨rfl, ?_⟩
    unfold SState.setObj SState.obj at h
    by_cases hh : o' = HID
    · simpa [hh] using h
    · simp only [hh, if_false, List.getD_eq_getElem?_getD, List.getElem?_set] at h
      simp only [if_true] at h
      split at h
      · simpa using h
      · simp at h
  · exact .inr ⟨e, by rwa [SState.obj_setObj_ne σ x e] at h⟩

theorem SState.tmp_setObj (σ : SState) (o : Nat) (x : Option SObj) (t : Nat) : (σ.setObj o x).tmp t = σ.tmp t := by
  unfold SState.setObj; split <;> rfl

theorem SState.tmps_setObj (σ : SState) (o : Nat) (x : Option SObj) : (σ.setObj o x).tmps = σ.tmps := by
  unfold SState.setObj; split <;> rfl

theorem SState.mlen_setObj (σ : SState) (o : Nat) (x : Option SObj) : (σ.setObj o x).mem.length = σ.mem.length := by
  unfold SState.setObj; split <;> simp

theorem Act.getD_put (a : Act) (d : Nat) (v : Value) (hd : d < a.tmps.size) (t : Nat) : (a.put (some d) v).tmps.getD t undef = if t = d then v else a.tmps.getD t undef := by
  simp only [Act.put, Array.getD_eq_getD_getElem?, Array.getElem?_setIfInBounds]
  by_cases h : d = t
  · subst h; simp [hd]
  · simp [h, Ne.symm h]

/-- A value is put into a slot. -/
theorem Rep.put {w0 : World} {X : Ent} {w : World} {a : Act} {σ : SState} {env : List D} {ρ : Rho} (h : Rep w0 X w a σ env ρ) {dst : Option Tmp} {v : Value} {sv : SV} (hd : ∀ d, dst = some d → d < σ.tmps.length)
    (hv : SRd w ρ env v sv) : Rep w0 X w (a.put dst v) (σ.put dst sv) env ρ := by
  cases dst with
  | none => exact h
  | some d =>
    have hd := hd d rfl
    refine ⟨by simp [Act.put, SState.put, h.size], fun t => ?_, h.objs, h.inj, h.own, h.cells, h.os, h.tape, h.output, h.grown, h.old, h.sub, h.new, h.nod, h.hold⟩
    rw [SState.tmp_put hd, Act.getD_put _ _ _ (by rw [h.size]; exact hd)]
    split
    · exact hv
    · exact h.tmps t

end Go.Am
