/-
  One operation, symbolically, and that the model's own run of it is as the symbolic step says.
-/
import Derived.Test.YtnenlnmfoocpdaaAmOps
import Derived.Laws.MakeOwn
import Derived.Laws.StructEq
set_option linter.unusedSimpArgs false
set_option linter.unusedVariables false
namespace Go.Am

/-- the fields lie one behind the other, each a number, a bool or a string -/
def flatFields (P : Program) : Nat → List Field → Option (List Nat)
  | _, [] => some []
  | i, f :: fs => if f.offset = i ∧ f.name ≠ "_" then (match P.underlying f.type with
    | some (.int _) => (flatFields P (i + 1) fs).map (0 :: ·)
    | some .bool => (flatFields P (i + 1) fs).map (1 :: ·)
    | some .string => (flatFields P (i + 1) fs).map (2 :: ·)
    | _ => none) else none

def flatStruct (P : Program) (t : TypeId) : Option (List Nat) :=
  match P.underlying t with
  | some (.struct fs) => if P.stoodInHeld t = false ∧ P.eqGuardType P.depth t = false then flatFields P 0 fs.toList else none
  | _ => none

/-- what kind of operands an operator has, by their type -/
def kindOf (P : Program) (t : TypeId) : Option Kd :=
  match P.underlying t with
  | some (.int _) => some .int
  | some .bool => some .bool
  | some .string => some .str
  | some (.pointer _) => some .ptr
  | some (.struct _) => (flatStruct P t).map .agg
  | _ => none

/-- the cells of a value of a type -/
def SV.cellsOf (agg : Bool) (n ix : Nat) (obj : Nat → Option SObj) (sv : SV) : Option (List SV × Option Bind) :=
  if agg then sv.split n ix else match sv with
    | .e x true => some ([.e x true], none)
    | .e x false => some ([.e x true], some (.ev (.scal x)))
    | .slc o => match obj o with
      | some (.row _ _) => some ([.slc o], none)
      | _ => none
    | .addr o off => some ([.addr o off], none)
    | .eaddr o i sz off => some ([.eaddr o i sz off], none)
    | .iptr x off => some ([.iptr x off], none)
    | .own x k => some ([.own x k], none)
    | .func fn cs => some ([.func fn cs], none)
    | _ => none

/-- the zero value's cells -/
def zeroSVs (P : Program) (t : TypeId) : Option (List SV) := ((P.info? t).bind (·.zero)).map fun z => z.cells.toList.map constSV

/-- the store, as an expression -/
def hOf (obj : Nat → Option SObj) : E :=
  match obj HID with
  | some (.store _ h) => h
  | _ => .const (.st [])

def lload (P : Program) (t : TypeId) (x : SV) (obj : Nat → Option SObj) (ix : Nat) : Option LRes :=
  (aggT P t).bind fun agg => (szT P t).bind fun n =>
  match x with
  | .addr ob off => match obj ob with
    | some (.box cs) => if agg then (if off + n ≤ cs.length then some { val := .agg ((cs.drop off).take n) } else none) else (cs[off]?).map fun c => { val := c }
    | _ => none
  | .eaddr ob i sz off => match obj ob with
    | some (.row l sz') => if sz ≠ sz' then none else if agg then (if off = 0 ∧ n = sz then some { val := .e (.sym ix) false, bind := some (.ev (.aggN n (.idx l i))) } else none)
      else some { val := .e (.sym ix) true, bind := some (.ev (.cell off (.idx l i))) }
    | _ => none
  | .iptr x off => if agg then (if off = 0 then some { val := .e (.sym ix) false, bind := some (.ev (.aggN n x)) } else some { val := .e (.sym ix) false, bind := some (.ev (.cells off n x)) })
      else some { val := .e (.sym ix) true, bind := some (.ev (.cell off x)) }
  | .e p _ => some { val := .e (.sym ix) (!agg), bind := some (.ev (.ld agg n (hOf obj) p)) }
  | _ => none

def lstore (P : Program) (t : TypeId) (x y : SV) (obj : Nat → Option SObj) (ix : Nat) : Option LRes :=
  (aggT P t).bind fun agg => (szT P t).bind fun n =>
  match x with
  | .addr ob off => match obj ob with
    | some (.box cs) => (y.cellsOf agg n ix obj).bind fun (ys, b) => if off + ys.length ≤ cs.length ∧ ys.length = n then some { upd := some (ob, .box (cs.take off ++ ys ++ cs.drop (off + ys.length))), bind := b } else none
    | _ => none
  | .eaddr ob i sz off => match obj ob with
    | some (.row l sz') => if sz ≠ sz' then none else (match agg, y with
      | false, .e y' true => if n = 1 then some { upd := some (ob, .row (.sym ix) sz'), bind := some (.ev (.set l i off y')) } else none
      | false, .e y' false => if n = 1 then some { upd := some (ob, .row (.sym ix) sz'), bind := some (.ev (.set l i off (.scal y'))) } else none
      | true, y => y.toE.map fun y' => { upd := some (ob, .row (.sym ix) sz'), bind := some (.ev (.set l i off (.aggN n y'))) }
      | _, _ => none)
    | _ => none
  | .e p _ => match obj HID, y.toE with
    | some (.store cf h), some y' => if cf.ro then none else some { upd := some (HID, .store cf (.sym ix)), bind := some (.ev (.sto n h p y')) }
    | _, _ => none
  | _ => none

def lfieldAddr (P : Program) (s : TypeId) (x : SV) (f : Nat) : Option LRes :=
  match P.underlying s with
  | some (.struct fs) => (fs[f]?).bind fun fd => (szT P fd.type).bind fun n => if n = 0 then none else match x with
    | .addr ob off => some { val := .addr ob (off + fd.offset) }
    | .eaddr ob i sz off => some { val := .eaddr ob i sz (off + fd.offset) }
    | .iptr x off => some { val := .iptr x (off + fd.offset) }
    | _ => none
  | _ => none

/-- ... of a struct behind a pointer that is data -/
def lfieldE (P : Program) (s : TypeId) (x : SV) (f ix : Nat) : Option LRes :=
  match P.underlying s, x with
  | some (.struct fs), .e p _ => (fs[f]?).bind fun fd => (szT P fd.type).bind fun n => if n = 0 then none else some { val := .e (.sym ix) true, bind := some (.ev (.padd fd.offset p)) }
  | _, _ => none

def lindexAddr (P : Program) (t : TypeId) (x i : SV) (obj : Nat → Option SObj) (ix : Nat) : Option LRes :=
  match P.underlying t, i.toE with
  | some (.slice e), some i' => (szT P e).bind fun n => match x with
    | .slc ob => match obj ob with
      | some (.row l sz) => if sz = n then some { val := .eaddr ob i' n 0, bind := some (.ev (.idx l i')) } else none
      | _ => none
    | x => x.toE.map fun l => { val := .e (.sym ix) true, bind := some (.ev (.eaddr n l i')) }
  | _, _ => none

def lnil (x : SV) (ix : Nat) : Option LRes :=
  match x with
  | .addr o off => some { val := .addr o off }
  | .eaddr o i sz off => some { val := .eaddr o i sz off }
  | .func fn cs => (match fn with | .method _ => none | _ => some { val := .func fn cs })
  | .iptr x off => some { val := .iptr x off }
  | .e x _ => some { val := .e (.sym ix) true, bind := some (.ev (.nn x)) }
  | _ => none

def isNilC : SV → Bool
  | .e (.const (.v (.pointer none))) _ => true
  | _ => false

def isAddr : SV → Bool
  | .addr _ _ | .eaddr _ _ _ _ | .iptr _ _ => true
  | _ => false

def lbin (P : Program) (op : BinOp) (t : TypeId) (x y : SV) (ix : Nat) : Option LRes :=
  if kindOf P t = some .ptr ∧ ((isAddr x = true ∧ isNilC y = true) ∨ (isNilC x = true ∧ isAddr y = true)) then
    (match op with
     | .eql => some { val := .e (.const (.v (.bool false))) true }
     | .neq => some { val := .e (.const (.v (.bool true))) true }
     | _ => none)
  else match kindOf P t, x.toE, y.toE with
  | some kd, some x', some y' => some { val := .e (.sym ix) true, bind := some (.ev (.bin op kd x' y')) }
  | _, _, _ => none

def lun (op : UnOp) (x : SV) (ix : Nat) : Option LRes := x.toE.map fun x' => { val := .e (.sym ix) true, bind := some (.ev (.un op x')) }

def lconv (P : Program) (src dst : TypeId) (x : SV) (ix : Nat) : Option LRes :=
  match P.underlying src, P.underlying dst with
  | some _, some (.int k) => x.toE.map fun x' => { val := .e (.sym ix) true, bind := some (.ev (.conv k x')) }
  | _, _ => none

def lextract (x : SV) (i ix : Nat) : Option LRes :=
  match x with
  | .tup cs => (cs[i]?).map fun c => { val := c }
  | .e y _ => some { val := .e (.sym ix) false, bind := some (.ev (.tget i y)) }
  | _ => none

/-- a new variable at its zero value -/
def lalloc (P : Program) (t : TypeId) (dst : Option Tmp) : Option LRes :=
  match dst, zeroSVs P t with
  | some d, some cs => some { val := .addr d 0, upd := some (d, .box cs) }
  | _, _ => none

/-- a new variable that holds a value -/
def lbox (P : Program) (t : TypeId) (x : SV) (dst : Option Tmp) (obj : Nat → Option SObj) (ix : Nat) : Option LRes :=
  match dst, aggT P t, szT P t with
  | some d, some agg, some n => (x.cellsOf agg n ix obj).map fun (cs, b) => { val := .addr d 0, upd := some (d, .box cs), bind := b }
  | _, _, _ => none

def llen (P : Program) (t : TypeId) (x : SV) (obj : Nat → Option SObj) (ix : Nat) : Option LRes :=
  match P.underlying t with
  | some (.slice _) => (match x with
    | .slc ob => match obj ob with
      | some (.row l _) => some { val := .e (.sym ix) true, bind := some (.ev (.lenL l)) }
      | _ => none
    | x => x.toE.map fun l => { val := .e (.sym ix) true, bind := some (.ev (.lenL l)) })
  | some .string => x.toE.map fun l => { val := .e (.sym ix) true, bind := some (.ev (.lenS l)) }
  | _ => none


/-! ## soundness -/

/-- The operation runs, and leaves the frame and the world as 'σ'' says. -/
def OpOk (P : Program) (o : Oper) (a : Act) (w : World) (w0 : World) (X : Ent) (σ' : SState) (env : List D) : Prop :=
  ∀ Q, o.uponIn Fence.wide 0 P a (fun a' w' => ∃ ρ', Rep w0 X w' a' σ' env ρ') Q ((execOp a.eval o).run P w)

/-- a fence for the activations of functions (none), or for the rounds of a loop -/
def FW (r : Option Nat) : Fence := { Fence.wide with round := r }

def noDefer (o : Oper) : Bool := match o.op with | .defer _ => false | _ => true

theorem callsFW {r : Option Nat} {n : Nat} {P : Program} {f : FuncId} {args : Array Value} {w : World} {R : Ending → World → Prop} : CallsIn (FW r) n P f args w R ↔ Calls P f args w R := callsIn_wide

theorem uponFW {P : Program} {o : Oper} {a : Act} {r : Option Nat} {n : Nat} {K K' : Act → World → Prop} {Q : Exit → Act → World → Prop} {x : Result Next} (h : o.uponIn Fence.wide 0 P a K Q x) (hK : ∀ a w, K a w → K' a w) : o.uponIn (FW r) n P a K' Q x := by
  cases x with
  | ok x w' =>
    cases x with
    | value v => exact hK _ _ h
    | skip => exact hK _ _ h
    | defer d => exact hK _ _ h
    | enter f args =>
      refine ⟨fun e => (by cases e), callsFW.2 ((callsIn_wide.1 h.2).mono fun e w'' he => ?_)⟩
      cases e <;> first | exact hK _ _ he | exact he
    | row row args => exact ⟨fun e => (by cases e), fun c cs _ => let ⟨v, w'', g, s⟩ := h.2 c cs (room_wide _); ⟨v, w'', hK _ _ g, s⟩⟩
    | round l f tmps assign body =>
      refine ⟨fun e => (by cases e), h.2.1, fun c cs _ => ?_⟩
      obtain ⟨e, w'', g, s⟩ := h.2.2 c cs (room_wide _)
      refine ⟨e, w'', ?_, s⟩
      cases e <;> first | exact hK _ _ g | exact g
    | _ => exact h.elim
  | halt x w' =>
    cases x <;> exact h

theorem upon_mono {P : Program} {o : Oper} {a : Act} {K K' : Act → World → Prop} {Q : Exit → Act → World → Prop} {x : Result Next} (h : o.uponIn Fence.wide 0 P a K Q x) (hK : ∀ a w, K a w → K' a w) : o.uponIn Fence.wide 0 P a K' Q x := uponFW (r := none) (n := 0) h hK

/-- An operation that runs so runs within any fence. -/
theorem wpIn_of_upon {P : Program} {o : Oper} {a : Act} {w : World} {r : Option Nat} {n : Nat} {K K' : Act → World → Prop} {Q : Exit → Act → World → Prop} (hd : noDefer o = true) (h : o.uponIn Fence.wide 0 P a K Q ((execOp a.eval o).run P w)) (hK : ∀ a w, K a w → K' a w) : o.wpIn (FW r) n P a w K' Q := by
  refine ⟨fun _ _ => trivial, ?_⟩
  rw [Oper.semAt_plain (FW r) _ _ (fun c hc => by rw [noDefer, hc] at hd; cases hd)]
  exact uponFW h hK

theorem opOk_value {P : Program} {o : Oper} {a : Act} {w w' w0 : World} {X : Ent} {σ' : SState} {env : List D} {ρ' : Rho} {v : Value} (hr : (execOp a.eval o).run P w = .ok (.value v) w') (h : Rep w0 X w' (a.put o.dst v) σ' env ρ') : OpOk P o a w w0 X σ' env := by
  intro Q
  rw [hr]
  exact ⟨ρ', h⟩

theorem opOk_skip {P : Program} {o : Oper} {a : Act} {w w' w0 : World} {X : Ent} {σ' : SState} {env : List D} {ρ' : Rho} (hr : (execOp a.eval o).run P w = .ok .skip w') (h : Rep w0 X w' (a.put o.dst undef) σ' env ρ') : OpOk P o a w w0 X σ' env := by
  intro Q
  rw [hr]
  exact ⟨ρ', h⟩

section
variable {P : Program} {w w0 : World} {X : Ent} {a : Act} {σ : SState} {env : List D} {ρ : Rho}

theorem cell_heap {w : World} {g : Nat} {vs : Array Value} {ty : TypeId} {fr : Nat × Nat} (h : w.heap[g]? = some (.cells vs ty fr)) (i : Nat) : w.cell? ⟨g, i, none⟩ = vs[i]? := cell_of_row w g i vs ty fr h

/-- loads out of memory: a struct -/
theorem run_load_agg {t : TypeId} {n b off : Nat} {vs : List Value} (hg : aggT P t = some true) (hn : szT P t = some n) (hl : vs.length = n) (hc : ∀ (j : Nat) (v : Value), vs[j]? = some v → w.cell? ⟨b, off + j, none⟩ = some v) :
    (loadVar t ⟨b, off, none⟩).run P w = .ok (.agg vs.toArray) w := by
  have h := run_loadCells_list (P := P) w ⟨b, off, none⟩ vs fun j v hv => by rw [addr_add]; exact hc j v hv
  rw [hl] at h
  unfold loadVar
  simp [Sem.run_bind, run_isAgg hg, run_sizeOf hn, h]

theorem run_load_one {t : TypeId} {b off : Nat} {v : Value} (hg : aggT P t = some false) (hc : w.cell? ⟨b, off, none⟩ = some v) : (loadVar t ⟨b, off, none⟩).run P w = .ok v w := by
  unfold loadVar
  simp [Sem.run_bind, run_isAgg hg, hc]

theorem exec_load {o : Oper} {t : TypeId} {x : Operand} {b off : Nat} {v : Value} (ho : o.op = .load t x) (hx : a.eval x = .pointer (some ⟨b, off, none⟩)) (hr : (loadVar t ⟨b, off, none⟩).run P w = .ok v w) :
    (execOp a.eval o).run P w = .ok (.value v) w := by
  unfold execOp
  simp only [ho, hx, Instr.loadAt, Instr.sureAddr, Sem.run_bind, Sem.run_pure, Result.andThen_ok, hr]

/-- the cells that an immutable pointer leads to -/
theorem RdD.ptr_cells {S : Sets} {v : Value} {cs : List D} (h : RdD w S v (.ptr cs)) : ∃ b off, v = .pointer (some ⟨b, off, none⟩) ∧ ∀ (j : Nat) (d : D), cs[j]? = some d → d.one = true ∧ S b (off + j) ∧ ∃ u, w.cell? ⟨b, off + j, none⟩ = some u ∧ RdD w S u d := by
  cases h with
  | @ptr b off _ val ho hS hw hr => exact ⟨b, off, rfl, fun j d hj => ⟨ho j d hj, hS j d hj, val j, hw j d hj, hr j d hj⟩⟩

/-- a run of cells, from memory, as data -/
theorem cells_of {S : Sets} {b off : Nat} : ∀ {ds : List D}, (∀ (j : Nat) (d : D), ds[j]? = some d → d.one = true ∧ ∃ u, w.cell? ⟨b, off + j, none⟩ = some u ∧ RdD w S u d) →
    ∃ vs : List Value, vs.length = ds.length ∧ (∀ (j : Nat) (v : Value), vs[j]? = some v → w.cell? ⟨b, off + j, none⟩ = some v) ∧ ∀ (j : Nat) (v : Value) (d : D), vs[j]? = some v → ds[j]? = some d → RdD w S v d := by
  intro ds
  induction ds generalizing off with
  | nil => intro _; exact ⟨[], rfl, by simp, by simp⟩
  | cons d r ih =>
    intro h
    obtain ⟨_, u, hu, hrd⟩ := h 0 d rfl
    obtain ⟨vs, hl, hc, hr⟩ := ih (off := off + 1) fun j d' hj => by
      have := h (j + 1) d' (by simpa using hj)
      rwa [show off + (j + 1) = off + 1 + j from by omega] at this
    refine ⟨u :: vs, by simp [hl], fun j v hv => ?_, fun j v d' hv hd => ?_⟩
    · cases j with
      | zero => simp at hv; subst hv; exact hu
      | succ j => rw [show off + (j + 1) = off + 1 + j from by omega]; exact hc j v (by simpa using hv)
    · cases j with
      | zero => simp at hv hd; subst hv hd; exact hrd
      | succ j => exact hr j v d' (by simpa using hv) (by simpa using hd)

theorem load_agg_data {S : Sets} {t : TypeId} {b off n : Nat} {ds : List D} (hg : aggT P t = some true) (hn : szT P t = some n) (hl : n ≤ ds.length)
    (hc : ∀ (j : Nat) (d : D), ds[j]? = some d → d.one = true ∧ ∃ u, w.cell? ⟨b, off + j, none⟩ = some u ∧ RdD w S u d) : ∃ v, (loadVar t ⟨b, off, none⟩).run P w = .ok v w ∧ RdD w S v (.agg (ds.take n)) := by
  obtain ⟨vs, hvl, hvc, hvr⟩ := cells_of hc
  refine ⟨_, run_load_agg (vs := vs.take n) hg hn (by simp; omega) (fun j v hv => ?_), .agg (by simp; omega) (fun i d hd => ?_) fun i v d hv hd => ?_⟩
  · rw [List.getElem?_take] at hv
    split at hv
    · exact hvc j v hv
    · cases hv
  · rw [List.getElem?_take] at hd
    split at hd
    · exact (hc i d hd).1
    · cases hd
  · simp only [List.getElem?_toArray, List.getElem?_take] at hv hd
    split at hv
    · rename_i hi; rw [if_pos hi] at hd; exact hvr i v d hv hd
    · cases hv

theorem load_one_data {S : Sets} {t : TypeId} {b off : Nat} {d : D} (hg : aggT P t = some false) (hc : ∃ u, w.cell? ⟨b, off, none⟩ = some u ∧ RdD w S u d) : ∃ v, (loadVar t ⟨b, off, none⟩).run P w = .ok v w ∧ RdD w S v d := by
  obtain ⟨u, hu, hr⟩ := hc
  exact ⟨u, run_load_one hg hu, hr⟩

/-- the cells of an element of a row -/
theorem row_cells {ob : Nat} {l : E} {sz : Nat} (h : ObjOk w ρ env ob (.row l sz)) : ∃ es, l.eval env = some (.lst es) ∧ ∀ (m : Nat) (e : D), es[m]? = some e → e.cells.length = sz ∧
    ∀ (j : Nat) (d : D), e.cells[j]? = some d → d.one = true ∧ ∃ u, w.cell? ⟨ρ.blk ob, m * sz + j, none⟩ = some u ∧ RdD w ρ.S u d := by
  obtain ⟨vs, ty, es, hh, hxl, hz, hvl, hr, _, _, _⟩ := h
  refine ⟨es, hxl, fun m e he => ⟨hz m e he, fun j d hd => ?_⟩⟩
  obtain ⟨h1, v, hv, hrd⟩ := hr m e j d he hd
  exact ⟨h1, v, by rw [cell_heap hh]; exact hv, hrd⟩

theorem D.cells_agg_take {d : D} {n : Nat} (h : d.cells.length = n) : d.cells.take n = d.cells := List.take_of_length_le (by omega)

theorem hOf_eval (h : Rep w0 X w a σ env ρ) {dh : D} (he : (hOf σ.obj).eval env = some dh) : ∃ bs, dh = .st bs ∧ (bs = [] ∨ StOk w ρ.S ρ.foot bs) := by
  unfold hOf at he
  split at he
  · rename_i cf x hx
    obtain ⟨bs, h1, h2, _⟩ := h.objs _ _ hx
    rw [h1] at he
    cases he
    exact ⟨bs, rfl, .inr h2⟩
  · simp only [E.eval] at he
    cases he
    exact ⟨[], rfl, .inl rfl⟩

theorem cellsAt_some {bs : List D} {i : Nat} {b : TypeId × Nat × List D} (h : D.cellsAt (.st bs) i = some b) : bs[i]? = some (.blk b.1 b.2.1 b.2.2) := by
  simp only [D.cellsAt] at h
  split at h
  · rename_i e; cases h; exact e
  · cases h

/-- a load through a pointer that is data -/
theorem ld_run {S : Sets} {foot : Nat → Prop} {t : TypeId} {n : Nat} {agg : Bool} {v : Value} {bs : List D} {dp d : D} (hg : aggT P t = some agg) (hn : szT P t = some n) (hp : RdD w S v dp) (hst : bs = [] ∨ StOk w S foot bs) (hd : D.ld agg n (.st bs) dp = some d) :
    ∃ b off u, v = .pointer (some ⟨b, off, none⟩) ∧ (loadVar t ⟨b, off, none⟩).run P w = .ok u w ∧ RdD w S u d ∧ ((!agg) = true → d.one = true) := by
  cases dp with
  | ptr cs =>
    obtain ⟨b, f, hxv, hc⟩ := hp.ptr_cells
    have hc' : ∀ (j : Nat) (d : D), cs[j]? = some d → d.one = true ∧ ∃ u, w.cell? ⟨b, f + j, none⟩ = some u ∧ RdD w S u d := fun j d hj => ⟨(hc j d hj).1, (hc j d hj).2.2⟩
    cases agg with
    | true =>
      simp only [D.ld, if_true] at hd
      split at hd
      · rename_i hle
        cases hd
        obtain ⟨u, hrun, hrd⟩ := load_agg_data hg hn hle hc'
        exact ⟨b, f, u, hxv, hrun, hrd, by simp⟩
      · cases hd
    | false =>
      simp only [D.ld, Bool.false_eq_true, if_false] at hd
      obtain ⟨h1, h2⟩ := hc' 0 d hd
      obtain ⟨u, hrun, hrd⟩ := load_one_data (P := P) hg h2
      exact ⟨b, f, u, hxv, hrun, hrd, fun _ => h1⟩
  | loc i off =>
    cases hp with
    | loc hi =>
    simp only [D.ld, Option.bind_eq_some_iff] at hd
    obtain ⟨blk, hb, hd⟩ := hd
    have hbs := cellsAt_some hb
    rcases hst with rfl | hst
    · simp at hbs
    obtain ⟨hf, vs, hh, hsz, hlen, hone, hr, hns⟩ := hst.cells i _ _ _ hbs
    have hc' : ∀ (j : Nat) (d : D), (blk.2.2.drop off)[j]? = some d → d.one = true ∧ ∃ u, w.cell? ⟨S.loc i, off + j, none⟩ = some u ∧ RdD w S u d := by
      intro j d hj
      rw [List.getElem?_drop] at hj
      have hlt : off + j < vs.size := Nat.lt_of_lt_of_le (List.getElem?_eq_some_iff.1 hj).1 hlen
      have hrd := hr (off + j) vs[off + j] d (by simp [hlt]) hj
      exact ⟨hone (off + j) d hj, vs[off + j], by rw [cell_heap hh]; simp [hlt], hrd⟩
    cases agg with
    | true =>
      simp only [if_true] at hd
      split at hd
      · rename_i hle
        cases hd
        obtain ⟨u, hrun, hrd⟩ := load_agg_data hg hn (by simp; omega) hc'
        exact ⟨_, off, u, rfl, hrun, hrd, by simp⟩
      · cases hd
    | false =>
      simp only [Bool.false_eq_true, if_false] at hd
      obtain ⟨h1, h2⟩ := hc' 0 d (by simpa using hd)
      obtain ⟨u, hrun, hrd⟩ := load_one_data (P := P) hg h2
      exact ⟨_, off, u, rfl, hrun, hrd, fun _ => h1⟩
  | _ => simp [D.ld] at hd

theorem lload_sound {o : Oper} {t : TypeId} {x : Operand} {sx : SV} {ix : Nat} {r : LRes} (ho : o.op = .load t x) (hl : lload P t sx σ.obj ix = some r) (hx : SRd w ρ env (a.eval x) sx) (h : Rep w0 X w a σ env ρ) (hd : ∀ d, o.dst = some d → d < σ.tmps.length)
    (hb : BindOk P env ix r.bind) : r.upd = none ∧ OpOk P o a w w0 X (σ.put o.dst r.val) env := by
  unfold lload at hl
  cases hg : aggT P t with
  | none => simp [hg] at hl
  | some agg =>
  cases hn : szT P t with
  | none => simp [hg, hn] at hl
  | some n =>
  simp only [hg, hn, Option.bind_some] at hl
  -- what is read is put into the slot
  have fin : ∀ {b off : Nat} {v : Value} {sv : SV}, a.eval x = .pointer (some ⟨b, off, none⟩) → (loadVar t ⟨b, off, none⟩).run P w = .ok v w → SRd w ρ env v sv → OpOk P o a w w0 X (σ.put o.dst sv) env :=
    fun hx hr hs => opOk_value (exec_load ho hx hr) (h.put hd hs)
  split at hl
  · rename_i ob off
    split at hl
    · rename_i cs hob
      obtain ⟨vs, ty, hh, hlen, hone, hr, _⟩ := h.objs ob _ hob
      have hxv := hx.addr_inv
      cases agg with
      | true =>
        simp only [if_true] at hl
        split at hl
        · rename_i hle
          cases hl
          refine ⟨rfl, fin hxv (run_load_agg (vs := (vs.toList.drop off).take n) hg hn (by simp [hlen]; omega) fun j v hv => ?_) (.agg (by simp [hlen]) (fun i v hv => ?_) fun i v c hv hc => ?_)⟩
          · rw [cell_heap hh]
            rw [List.getElem?_take] at hv
            split at hv
            · simpa using hv
            · cases hv
          · simp only [List.getElem?_toArray, List.getElem?_take] at hv
            split at hv
            · exact hone (off + i) v (by simpa using hv)
            · cases hv
          · simp only [List.getElem?_toArray, List.getElem?_take] at hv hc
            split at hv
            · rename_i hi
              rw [if_pos hi] at hc
              exact hr (off + i) v c (by simpa using hv) (by simpa using hc)
            · cases hv
        · cases hl
      | false =>
        simp only [Bool.false_eq_true, if_false, Option.map_eq_some_iff] at hl
        obtain ⟨c, hc, rfl⟩ := hl
        have hi : off < vs.size := by rw [hlen]; exact (List.getElem?_eq_some_iff.1 hc).1
        exact ⟨rfl, fin hxv (run_load_one (v := vs[off]) hg (by rw [cell_heap hh]; simp [hi])) (hr off vs[off] c (by simp [hi]) hc)⟩
    · cases hl
  · rename_i ob i sz off
    split at hl
    · rename_i l sz' hob
      obtain ⟨es, hxl, hes⟩ := row_cells (h.objs ob _ hob)
      split at hl
      · cases hl
      rename_i hsz
      simp only [Decidable.not_not] at hsz
      subst hsz
      obtain ⟨m, k, hi, hxv⟩ := hx.eaddr_inv
      cases agg with
      | true =>
        simp only [if_true] at hl
        split at hl
        · rename_i hoff
          cases hl
          obtain ⟨rfl, rfl⟩ := hoff
          obtain ⟨d, he, hix⟩ := hb
          simp only [E.eval, hxl, hi, Option.bind_some, D.idx] at he
          simp at he
          cases hem : es[m]? with
          | none => simp [hem] at he
          | some e =>
          simp only [hem, Option.bind_some] at he
          obtain ⟨hel, hec⟩ := hes m e hem
          have hle : n ≤ e.cells.length := by omega
          obtain ⟨v, hrun, hrd⟩ := load_agg_data (off := m * n + 0) hg hn hle (fun j d hd => by simpa using hec j d hd)
          cases e with
          | agg cs =>
            simp only [D.aggN] at he
            split at he
            · rename_i hcl
              cases he
              refine ⟨rfl, fin hxv hrun (.e (d := .agg cs) (by simp [E.eval, hix]) ?_ (by simp))⟩
              rw [D.cells_agg_take hel] at hrd
              exact hrd
            · cases he
          | _ => simp [D.aggN] at he
        · cases hl
      | false =>
        simp only [Bool.false_eq_true, if_false] at hl
        cases hl
        obtain ⟨d, he, hix⟩ := hb
        simp only [E.eval, hxl, hi, Option.bind_some, D.idx] at he
        simp at he
        cases hem : es[m]? with
        | none => simp [hem] at he
        | some e =>
        simp only [hem, Option.bind_some, D.cell] at he
        obtain ⟨hel, hec⟩ := hes m e hem
        obtain ⟨h1, h2⟩ := hec off d he
        obtain ⟨v, hrun, hrd⟩ := load_one_data (P := P) hg h2
        exact ⟨rfl, fin hxv hrun (.e (d := d) (by simp [E.eval, hix]) hrd fun _ => h1)⟩
    · cases hl
  · rename_i y off
    obtain ⟨dy, hy, hrd⟩ := hx.iptr_inv
    obtain ⟨b, f, hxv, hc⟩ := hrd.ptr_cells
    have hc' : ∀ (j : Nat) (d : D), (dy.cells.drop off)[j]? = some d → d.one = true ∧ ∃ u, w.cell? ⟨b, f + j, none⟩ = some u ∧ RdD w ρ.S u d := fun j d hj => ⟨(hc j d hj).1, (hc j d hj).2.2⟩
    cases agg with
    | true =>
      simp only [if_true] at hl
      split at hl
      · rename_i hoff
        cases hl
        subst hoff
        obtain ⟨d, he, hix⟩ := hb
        simp only [E.eval, hy, Option.bind_some] at he
        cases dy with
        | agg cs =>
          simp only [D.aggN] at he
          split at he
          · rename_i hcl
            cases he
            have hle : n ≤ ((D.agg cs).cells.drop 0).length := by simp [D.cells]; omega
            obtain ⟨v, hrun, hrd⟩ := load_agg_data hg hn hle hc'
            refine ⟨rfl, fin hxv hrun (.e (d := .agg cs) (by simp [E.eval, hix]) ?_ (by simp))⟩
            simpa [D.cells, ← hcl] using hrd
          · cases he
        | _ => simp [D.aggN] at he
      · rename_i hoff
        cases hl
        obtain ⟨d, he, hix⟩ := hb
        simp only [E.eval, hy, Option.bind_some] at he
        cases dy with
        | agg cs =>
          simp only [D.part] at he
          split at he
          · rename_i hcl
            cases he
            have hle : n ≤ ((D.agg cs).cells.drop off).length := by simp [D.cells]; omega
            obtain ⟨v, hrun, hrd⟩ := load_agg_data hg hn hle hc'
            exact ⟨rfl, fin hxv hrun (.e (by simp [E.eval, hix]; rfl) hrd (by simp))⟩
          · cases he
        | _ => simp [D.part] at he
    | false =>
      simp only [Bool.false_eq_true, if_false] at hl
      cases hl
      obtain ⟨d, he, hix⟩ := hb
      simp only [E.eval, hy, Option.bind_some, D.cell] at he
      obtain ⟨h1, h2⟩ := hc' 0 d (by simpa using he)
      obtain ⟨v, hrun, hrd⟩ := load_one_data (P := P) hg h2
      exact ⟨rfl, fin hxv hrun (.e (d := d) (by simp [E.eval, hix]) hrd fun _ => h1)⟩
  · rename_i p s
    cases hl
    obtain ⟨dp, hp, hrd, _⟩ := hx.e_inv
    obtain ⟨d, he, hix⟩ := hb
    simp only [E.eval, hp, Option.bind_some, Option.bind_eq_some_iff] at he
    obtain ⟨dh, hh, he⟩ := he
    obtain ⟨bs, rfl, hst⟩ := hOf_eval h hh
    obtain ⟨b, off, u, hv, hrun, hrd', h1⟩ := ld_run hg hn hrd hst he
    exact ⟨rfl, fin hv hrun (.e (d := d) (by simp [E.eval, hix]) hrd' h1)⟩
  · cases hl

end

end Go.Am
