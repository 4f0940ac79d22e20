/-
  One operation, symbolically: what it yields, which object it changes, what it binds.
-/
import Derived.Test.YtnenlnmfoocpdaaAmMove
import Derived.RangeFuncIn
import Derived.TacticsIn
import Derived.OrdersIn
import Derived.LoopNIn
import Derived.RangeFuncLeaves
import Derived.RangeFuncNested
import Derived.OwnWalkIn
set_option linter.unusedSimpArgs false
set_option linter.unusedVariables false
namespace Go.Am

/-- how a call ends -/
inductive Out where
  | ret (d : D)
  | pan (d : D)

/-- ... in the model -/
def Out.ends (w' : World) (S' : Sets) (v : Value) : Out → Ending → Prop
  | .ret d, e => e = .returned v ∧ RdD w' S' v d
  | .pan d, e => e = .panicked [{ v, recovered := false }] ∧ RdD w' S' v d

/-- The loops under way are ready, and their records are no blocks of the store. -/
def HoldOk (w : World) (S : Sets) (foot : Nat → Prop) : Prop := ∀ l rec, S.hold l = some rec → w.heap[l]? = some (.loop rec) ∧ ¬ foot l

theorem Rep.holdOk {w0 w : World} {X : Ent} {a : Act} {σ : SState} {env : List D} {ρ : Rho} (h : Rep w0 X w a σ env ρ) {cf : StCfg} {x : E} (hob : σ.obj HID = some (.store cf x)) : HoldOk w ρ.S ρ.foot := by
  intro l rec hl
  have hl' : X.S.hold l = some rec := by rw [← h.sub.hold]; exact hl
  obtain ⟨h1, h2, h3⟩ := h.hold l rec hl'
  have hlt : l < w0.heap.size := (Array.getElem?_eq_some_iff.1 h1).1
  refine ⟨(h.old l hlt h2).trans h1, fun hf => ?_⟩
  rcases (h.own HID _ l hob hf).1 with g | g | g
  · exact h3 g.2
  · omega
  · exact h2 g

/-- A function's contract over data: called with arguments that read as 'ds' where the store is 'h', it ends with a value that reads as data; nothing that was there is changed. -/
def FSpecO (P : Program) (f : FuncId) (h : D) (ds : List D) (o : Out) : Prop :=
  ∀ (w : World) (S : Sets) (foot : Nat → Prop) (bs : List D) (vs : Array Value), h = .st bs → StOk w S foot bs → HoldOk w S foot → (∀ b, foot b → b < w.heap.size) → (∀ b o, S b o → b < w.heap.size) → vs.size = ds.length → (∀ (i : Nat) (v : Value) (x : D), vs[i]? = some v → ds[i]? = some x → RdD w S v x) →
    Calls P f vs w fun e w' => ∃ (v : Value) (S' : Sets), o.ends w' S' v e ∧ RowKit.Below w.heap.size w w' ∧ S ≤ S' ∧ S'.n = S.n ∧ (∀ b o, S' b o → S b o ∨ w.heap.size ≤ b) ∧ ∀ b o, S' b o → b < w'.heap.size

abbrev FSpecR (P : Program) (f : FuncId) (h : D) (ds : List D) (d : D) : Prop := FSpecO P f h ds (.ret d)

/-- ... that may write the store: afterwards the store is 'h''. -/
def FSpecWO (P : Program) (f : FuncId) (h : D) (ds : List D) (o : Out) (h' : D) : Prop :=
  ∀ (w : World) (S : Sets) (foot : Nat → Prop) (bs : List D) (vs : Array Value), h = .st bs → StOk w S foot bs → HoldOk w S foot → (∀ b, foot b → b < w.heap.size) → (∀ b o, S b o → b < w.heap.size) → vs.size = ds.length → (∀ (i : Nat) (v : Value) (x : D), vs[i]? = some v → ds[i]? = some x → RdD w S v x) →
    Calls P f vs w fun e w' => ∃ (v : Value) (S' : Sets) (foot' : Nat → Prop) (bs' : List D), o.ends w' S' v e ∧ h' = .st bs' ∧ StOk w' S' foot' bs' ∧ Keeps S w w' ∧ S ≤ S' ∧ w'.os = w.os ∧ w'.tape = w.tape ∧ w'.output = w.output ∧ w.heap.size ≤ w'.heap.size ∧
      (∀ b, b < w.heap.size → ¬ foot b → w'.heap[b]? = w.heap[b]?) ∧ (∀ b, foot' b → (foot b ∨ w.heap.size ≤ b) ∧ b < w'.heap.size) ∧ (∀ b o, S' b o → S b o ∨ foot b ∨ w.heap.size ≤ b) ∧ ∀ b o, S' b o → b < w'.heap.size

abbrev FSpecW (P : Program) (f : FuncId) (h : D) (ds : List D) (d h' : D) : Prop := FSpecWO P f h ds (.ret d) h'

/-- **What a loop's round does**, called with data where the store is 'st': it goes on, and the store is 'st''. -/
def YSpec (P : Program) (y : D) (st : D) (ds : List D) (st' : D) : Prop :=
  ∀ (w : World) (S : Sets) (foot : Nat → Prop) (bs : List D) (vs : Array Value) (yv : Value), st = .st bs → StOk w S foot bs → HoldOk w S foot → (∀ b, foot b → b < w.heap.size) → (∀ b o, S b o → b < w.heap.size) → RdD w S yv y → vs.size = ds.length → (∀ (i : Nat) (v : Value) (x : D), vs[i]? = some v → ds[i]? = some x → RdD w S v x) →
    ∃ (l : Nat) (f : FuncId) (tmps : Array Value) (assign body : Code), yv = .func (.yield l) #[] #[] ∧ (Instr.yield l vs).run P w = .ok (.round l f tmps assign body) w ∧ RoundIn Fence.wide 0 P l f tmps assign body w fun e w' => ∃ (S' : Sets) (foot' : Nat → Prop) (bs' : List D), e = .returned (.bool true) ∧ st' = .st bs' ∧ StOk w' S' foot' bs' ∧ Keeps S w w' ∧ S ≤ S' ∧ w'.os = w.os ∧ w'.tape = w.tape ∧ w'.output = w.output ∧ w.heap.size ≤ w'.heap.size ∧
      (∀ b, b < w.heap.size → ¬ foot b → w'.heap[b]? = w.heap[b]?) ∧ (∀ b, foot' b → (foot b ∨ w.heap.size ≤ b) ∧ b < w'.heap.size) ∧ (∀ b o, S' b o → S b o ∨ foot b ∨ w.heap.size ≤ b) ∧ ∀ b o, S' b o → b < w'.heap.size

inductive Bind where
  | ev (x : E)
  | call (act : List (E × Bool)) (f : FuncId) (h : E) (args : List E) (rs : List Bool)
  | wcall (act : List (E × Bool)) (f : FuncId) (h : E) (args : List E) (rs : List Bool)
  | callv (act : List (E × Bool)) (x h : E) (args : List E) (rs : List Bool)
  | wcallv (act : List (E × Bool)) (x h : E) (args : List E) (rs : List Bool)
  deriving Inhabited

/-- the results of a call are of one cell where 'rs' says so -/
def fitsAll : List Bool → List D → Bool
  | [], [] => true
  | b :: r, d :: s => (!b || d.one) && fitsAll r s
  | _, _ => false

def D.fits (rs : List Bool) (d : D) : Bool :=
  match rs with
  | [b] => !b || d.one
  | rs => match d with
    | .tup ds => fitsAll rs ds
    | _ => false

def evalAll (env : List D) : List E → Option (List D)
  | [] => some []
  | x :: r => (x.eval env).bind fun d => (evalAll env r).map (d :: ·)

/-- a function that can be called as any other -/
def callable (P : Program) (f : FuncId) : Bool :=
  match P.funcs[f]? with
  | some fn => !(fn.name == "runtime.NumGoroutine") && fn.body.isSome
  | none => false

/-- a call of a function value that writes the store -/
def CallV (P : Program) (xd st : D) (ds : List D) (d h' : D) : Prop :=
  match xd with
  | .fn f us cs => callable P f = true ∧ FSpecW P f st (us ++ ds ++ cs) d h'
  | .yl l rec sl caps => d = .bool true ∧ YSpec P (.yl l rec sl caps) st ds h'
  | _ => False

def BindOk (P : Program) (env : List D) (ix : Nat) : Option Bind → Prop
  | none => True
  | some (.ev x) => ∃ d, x.eval env = some d ∧ env[ix]? = some d
  | some (.call act f h args rs) => ∃ d, env[ix]? = some d ∧ (actHolds env act → ∃ st ds, h.eval env = some st ∧ evalAll env args = some ds ∧ FSpecR P f st ds d ∧ d.fits rs = true)
  | some (.wcall act f h args rs) => ∃ st d h', h.eval env = some st ∧ env[ix]? = some (.tup [d, h']) ∧ (actHolds env act → ∃ ds, evalAll env args = some ds ∧ FSpecW P f st ds d h' ∧ d.fits rs = true) ∧ (¬ actHolds env act → h' = st)
  | some (.callv act x h args rs) => ∃ d, env[ix]? = some d ∧ (actHolds env act → ∃ f us cs st ds, x.eval env = some (.fn f us cs) ∧ callable P f = true ∧ h.eval env = some st ∧ evalAll env args = some ds ∧ FSpecR P f st (us ++ ds ++ cs) d ∧ d.fits rs = true)
  | some (.wcallv act x h args rs) => ∃ st d h', h.eval env = some st ∧ env[ix]? = some (.tup [d, h']) ∧ (actHolds env act → ∃ xd ds, x.eval env = some xd ∧ evalAll env args = some ds ∧ CallV P xd st ds d h' ∧ d.fits rs = true) ∧ (¬ actHolds env act → h' = st)

structure LRes where
  val : SV := .junk
  upd : Option (Nat × SObj) := none
  bind : Option Bind := none
  deriving Inhabited

/-! ## types -/

def aggT (P : Program) (t : TypeId) : Option Bool := (P.underlying t).map fun | .struct _ => true | .array _ _ => true | _ => false
def szT (P : Program) (t : TypeId) : Option Nat := (P.info? t).map (·.size)

theorem run_isAgg {P : Program} {t : TypeId} {b : Bool} (h : aggT P t = some b) (w : World) : (isAgg t).run P w = .ok b w := by
  unfold aggT at h
  cases hu : P.underlying t with
  | none => simp [hu] at h
  | some d =>
    simp only [hu, Option.map_some, Option.some.injEq] at h
    unfold isAgg
    rw [Sem.run_bind, run_underlying hu w]
    subst h
    cases d <;> rfl

theorem run_sizeOf {P : Program} {t : TypeId} {n : Nat} (h : szT P t = some n) (w : World) : (sizeOf t).run P w = .ok n w := by
  unfold szT at h
  cases hi : P.info? t with
  | none => simp [hi] at h
  | some i => simp [hi] at h; simp [sizeOf, typeInfo, hi, h]

theorem run_zeroValue {P : Program} {t : TypeId} {z : Value} (h : (P.info? t).bind (·.zero) = some z) (w : World) : (zeroValue t).run P w = .ok z w := by
  cases hi : P.info? t with
  | none => simp [hi] at h
  | some i => simp [hi] at h; simp [zeroValue, typeInfo, hi, h]

theorem addr_add (b off j : Nat) : (⟨b, off, none⟩ : Addr).add j = ⟨b, off + j, none⟩ := by
  unfold Addr.add; split <;> simp_all

/-! ## constants -/

def D.ofCells (nz : Bool) : List Value → Option (List D)
  | [] => some []
  | y :: r => if plain y then (D.ofCells nz r).map (D.v y :: ·) else match y with
    | .slice none 0 0 => (D.ofCells nz r).map ((if nz then .snil else .lst []) :: ·)
    | _ => none

/-- a constant value, as data -/
def D.ofVal (y : Value) : Option D :=
  match y with
  | .agg cs => (D.ofCells false cs.toList).map .agg
  | y => match D.ofCells false [y] with
    | some [d] => some d
    | _ => none

theorem D.ofCells_rd {w : World} {S : Sets} {nz : Bool} : ∀ {l : List Value} {ds : List D}, D.ofCells nz l = some ds → l.length = ds.length ∧ ∀ (i : Nat) (v : Value) (d : D), l[i]? = some v → ds[i]? = some d → RdD w S v d ∧ d.one = true
  | [], ds, h => by simp [D.ofCells] at h; subst h; simp
  | y :: r, ds, h => by
    simp only [D.ofCells] at h
    split at h
    · rename_i hp
      obtain ⟨ds', h1, rfl⟩ := Option.map_eq_some_iff.1 h
      obtain ⟨hl, hr⟩ := D.ofCells_rd h1
      refine ⟨by simp [hl], fun i u d hu hd => ?_⟩
      cases i with
      | zero => simp at hu hd; subst hu hd; exact ⟨.v hp, rfl⟩
      | succ i => exact hr i u d (by simpa using hu) (by simpa using hd)
    · split at h
      · obtain ⟨ds', h1, rfl⟩ := Option.map_eq_some_iff.1 h
        obtain ⟨hl, hr⟩ := D.ofCells_rd h1
        refine ⟨by simp [hl], fun i u d hu hd => ?_⟩
        cases i with
        | zero =>
          simp only [List.getElem?_cons_zero, Option.some.injEq] at hu hd
          subst hu hd
          cases nz
          · exact ⟨.nil, rfl⟩
          · exact ⟨.snil, rfl⟩
        | succ i => exact hr i u d (by simpa using hu) (by simpa using hd)
      · cases h

theorem D.ofVal_rd {w : World} {S : Sets} {v : Value} {d : D} (h : D.ofVal v = some d) : RdD w S v d := by
  have one : ∀ {v : Value} {d : D}, (match D.ofCells false [v] with | some [d] => some d | _ => none) = some d → RdD w S v d := by
    intro v d h
    split at h
    · rename_i d' hd'
      cases h
      exact ((D.ofCells_rd (w := w) (S := S) hd').2 0 v d rfl rfl).1
    · cases h
  cases v with
  | agg cs =>
    simp only [D.ofVal] at h
    obtain ⟨ds, h1, rfl⟩ := Option.map_eq_some_iff.1 h
    obtain ⟨hl, hr⟩ := D.ofCells_rd (w := w) (S := S) h1
    refine .agg (by simpa using hl) (fun i d hd => ?_) (fun i v d hv hd => (hr i v d (by simpa using hv) hd).1)
    have hi : i < cs.toList.length := by rw [hl]; exact (List.getElem?_eq_some_iff.1 hd).1
    exact (hr i _ d (List.getElem?_eq_getElem hi) hd).2
  | _ => exact one h

def constSV (v : Value) : SV := match D.ofVal v with | some d => .e (.const d) d.one | none => .junk

theorem constSV_rd {w : World} {ρ : Rho} {env : List D} (v : Value) : SRd w ρ env v (constSV v) := by
  unfold constSV
  split
  · rename_i d hd; exact .e rfl (D.ofVal_rd hd) id
  · exact .junk

/-! ## from symbolic values to expressions, and to cells -/

mutual
/-- the data that a symbolic value stands for -/
def SV.toE : SV → Option E
  | .e x _ => some x
  | .own x _ => some x
  | .func (.func f) [] => some (.const (.fn f [] []))
  | .agg cs => SV.toEs cs
  | .tup cs => SV.toTs cs
  | _ => none
def SV.toEs : List SV → Option E
  | [] => some .nil
  | s :: r => match s.toE, SV.toEs r with | some x, some y => some (.cons x y) | _, _ => none
def SV.toTs : List SV → Option E
  | [] => some .tnil
  | s :: r => match s.toE, SV.toTs r with | some x, some y => some (.tcons x y) | _, _ => none
end

theorem RdD.one_of {w : World} {S : Sets} {v : Value} {d : D} (h : RdD w S v d) (hv : v.oneCell' = true) : d.one = true := by
  cases h <;> first | rfl | simp [Value.oneCell'] at hv

theorem D.cells_one {d : D} (h : d.one = true) : d.cells = [d] := by cases d <;> first | rfl | simp [D.one] at h

theorem D.cons_one {d : D} (h : d.one = true) (cs : List D) : D.cons d (.agg cs) = some (.agg (d :: cs)) := by
  cases d <;> first | rfl | simp [D.one] at h

mutual
theorem SV.toE_rd {w : World} {ρ : Rho} {env : List D} : ∀ {sv : SV} {x : E} {v : Value}, sv.toE = some x → SRd w ρ env v sv → ∃ d, x.eval env = some d ∧ RdD w ρ.S v d
  | .e x s, y, v, h, hr => by
    simp [SV.toE] at h; subst h
    cases hr with | e hx hd _ => exact ⟨_, hx, hd⟩
  | .own x k, y, v, h, hr => by
    simp [SV.toE] at h; subst h
    cases hr with | own hx hd _ => exact ⟨_, hx, hd⟩
  | .agg cs, y, v, h, hr => by
    simp only [SV.toE] at h
    cases hr with
    | @agg vs _ hl ho hh =>
      obtain ⟨ds, he, hdl, hd⟩ := SV.toEs_rd (vs := vs.toList) h (by simpa using hl) (fun i v hv => ho i v (by simpa using hv)) (fun i v c hv hc => hh i v c (by simpa using hv) hc)
      refine ⟨_, he, .agg (by simpa using hdl) (fun i d hd' => ?_) fun i v d hv hd' => (hd i v d (by simpa using hv) hd').1⟩
      have hi : i < vs.toList.length := by rw [hdl]; exact (List.getElem?_eq_some_iff.1 hd').1
      exact (hd i _ d (List.getElem?_eq_getElem hi) hd').2
  | .tup cs, y, v, h, hr => by
    simp only [SV.toE] at h
    cases hr with
    | @tup vs _ hl hh =>
      obtain ⟨ds, he, hdl, hd⟩ := SV.toTs_rd (vs := vs.toList) h (by simpa using hl) (fun i v c hv hc => hh i v c (by simpa using hv) hc)
      exact ⟨_, he, .tup (by simpa using hdl) fun i v d hv hd' => hd i v d (by simpa using hv) hd'⟩
  | .junk, _, _, h, _ | .addr _ _, _, _, h, _ | .eaddr _ _ _ _, _, _, h, _ | .iptr _ _, _, _, h, _ | .slc _, _, _, h, _ | .cond _ _, _, _, h, _ => by simp [SV.toE] at h
  | .func fn cs, y, v, h, hr => by
    obtain ⟨vs, rfl, hl, _⟩ := hr.func_inv
    cases fn with
    | func f =>
      cases cs with
      | nil =>
        simp only [SV.toE] at h
        cases h
        have : vs = #[] := by simpa using hl
        subst this
        exact ⟨_, rfl, .fn rfl rfl (by simp) (by simp)⟩
      | cons _ _ => simp [SV.toE] at h
    | _ => simp [SV.toE] at h
theorem SV.toEs_rd {w : World} {ρ : Rho} {env : List D} : ∀ {cs : List SV} {x : E} {vs : List Value}, SV.toEs cs = some x → vs.length = cs.length → (∀ (i : Nat) (v : Value), vs[i]? = some v → v.oneCell' = true) →
    (∀ (i : Nat) (v : Value) (c : SV), vs[i]? = some v → cs[i]? = some c → SRd w ρ env v c) → ∃ ds, x.eval env = some (.agg ds) ∧ vs.length = ds.length ∧ ∀ (i : Nat) (v : Value) (d : D), vs[i]? = some v → ds[i]? = some d → RdD w ρ.S v d ∧ d.one = true
  | [], x, vs, h, hl, _, _ => by
    simp [SV.toEs] at h; subst h
    have : vs = [] := List.eq_nil_of_length_eq_zero (by simpa using hl)
    subst this
    exact ⟨[], rfl, rfl, by simp⟩
  | s :: r, x, vs, h, hl, ho, hh => by
    match vs, hl with
    | v :: vs, hl =>
      simp only [SV.toEs] at h
      split at h
      · rename_i y z hy hz
        cases h
        obtain ⟨d, hd, hrd⟩ := SV.toE_rd hy (hh 0 v s rfl rfl)
        obtain ⟨ds, he, hdl, hds⟩ := SV.toEs_rd (vs := vs) hz (by simpa using hl) (fun i v hv => ho (i + 1) v (by simpa using hv)) (fun i v c hv hc => hh (i + 1) v c (by simpa using hv) (by simpa using hc))
        have h1 := hrd.one_of (ho 0 v rfl)
        refine ⟨d :: ds, by simp [E.eval, hd, he, D.cons_one h1], by simp [hdl], fun i v' d' hv hd' => ?_⟩
        cases i with
        | zero => simp at hv hd'; subst hv hd'; exact ⟨hrd, h1⟩
        | succ i => exact hds i v' d' (by simpa using hv) (by simpa using hd')
      · cases h
theorem SV.toTs_rd {w : World} {ρ : Rho} {env : List D} : ∀ {cs : List SV} {x : E} {vs : List Value}, SV.toTs cs = some x → vs.length = cs.length →
    (∀ (i : Nat) (v : Value) (c : SV), vs[i]? = some v → cs[i]? = some c → SRd w ρ env v c) → ∃ ds, x.eval env = some (.tup ds) ∧ vs.length = ds.length ∧ ∀ (i : Nat) (v : Value) (d : D), vs[i]? = some v → ds[i]? = some d → RdD w ρ.S v d
  | [], x, vs, h, hl, _ => by
    simp [SV.toTs] at h; subst h
    have : vs = [] := List.eq_nil_of_length_eq_zero (by simpa using hl)
    subst this
    exact ⟨[], rfl, rfl, by simp⟩
  | s :: r, x, vs, h, hl, hh => by
    match vs, hl with
    | v :: vs, hl =>
      simp only [SV.toTs] at h
      split at h
      · rename_i y z hy hz
        cases h
        obtain ⟨d, hd, hrd⟩ := SV.toE_rd hy (hh 0 v s rfl rfl)
        obtain ⟨ds, he, hdl, hds⟩ := SV.toTs_rd (vs := vs) hz (by simpa using hl) (fun i v c hv hc => hh (i + 1) v c (by simpa using hv) (by simpa using hc))
        refine ⟨d :: ds, by simp [E.eval, hd, he, D.tcons], by simp [hdl], fun i v' d' hv hd' => ?_⟩
        cases i with
        | zero => simp at hv hd'; subst hv hd'; exact hrd
        | succ i => exact hds i v' d' (by simpa using hv) (by simpa using hd')
      · cases h
end

/-- The cells of a struct's value, n of them, each symbolically; what must be bound for it. -/
def SV.split (n ix : Nat) : SV → Option (List SV × Option Bind)
  | .agg cs => if cs.length = n then some (cs, none) else none
  | .e (.const (.agg ds)) _ => if ds.length = n ∧ ds.all (·.one) = true then some (ds.map fun d => .e (.const d) true, none) else none
  | .e x _ => some ((List.range n).map fun i => .e (.cell i (.sym ix)) true, some (.ev (.aggN n x)))
  | _ => none

theorem SV.split_rd {P : Program} {w : World} {ρ : Rho} {env : List D} {n ix : Nat} {sv : SV} {cs : List SV} {b : Option Bind} {v : Value} (h : sv.split n ix = some (cs, b)) (hb : BindOk P env ix b) (hr : SRd w ρ env v sv) :
    ∃ vs : Array Value, v = .agg vs ∧ vs.size = n ∧ cs.length = n ∧ (∀ (i : Nat) (v : Value), vs[i]? = some v → v.oneCell' = true) ∧ ∀ (i : Nat) (v : Value) (c : SV), vs[i]? = some v → cs[i]? = some c → SRd w ρ env v c := by
  unfold SV.split at h
  split at h
  · rename_i cs'
    split at h
    · rename_i hl
      cases h
      cases hr with
      | agg hl' ho hh => exact ⟨_, rfl, by omega, hl, ho, hh⟩
    · cases h
  · rename_i ds s
    split at h
    · rename_i hl
      cases h
      cases hr with
      | e hx hd _ =>
        simp [E.eval] at hx
        subst hx
        cases hd with
        | agg hl' ho hh =>
          refine ⟨_, rfl, by omega, by simp [hl.1], fun i v hv => ?_, fun i v c hv hc => ?_⟩
          · have hi : i < ds.length := by rw [← hl']; exact (Array.getElem?_eq_some_iff.1 hv).1
            exact (hh i v _ hv (List.getElem?_eq_getElem hi)).one (ho i _ (List.getElem?_eq_getElem hi))
          · simp only [List.getElem?_map, Option.map_eq_some_iff] at hc
            obtain ⟨d, hd, rfl⟩ := hc
            exact .e rfl (hh i v d hv hd) fun _ => ho i d hd
    · cases h
  · rename_i x s hne
    cases h
    obtain ⟨d, hd, he⟩ := hb
    cases hr with
    | e hx hrd _ =>
      simp only [E.eval, hx, Option.bind_some] at hd
      cases hrd with
      | @agg vs ds hl' ho hh =>
        simp only [D.aggN] at hd
        split at hd
        · rename_i hl
          cases hd
          refine ⟨_, rfl, by omega, by simp, fun i v hv => ?_, fun i v c hv hc => ?_⟩
          · have hi : i < ds.length := by rw [← hl']; exact (Array.getElem?_eq_some_iff.1 hv).1
            exact (hh i v _ hv (List.getElem?_eq_getElem hi)).one (ho i _ (List.getElem?_eq_getElem hi))
          · have hi : i < ds.length := by rw [← hl']; exact (Array.getElem?_eq_some_iff.1 hv).1
            have hc' : c = .e (.cell i (.sym ix)) true := by
              simp only [List.getElem?_map, Option.map_eq_some_iff] at hc
              obtain ⟨j, hj, rfl⟩ := hc
              have := List.getElem?_eq_some_iff.1 hj
              simp at this
              rw [← this.2]
            subst hc'
            exact .e (d := ds[i]) (by simp [E.eval, he, D.cell, D.cells, hi]) (hh i v _ hv (List.getElem?_eq_getElem hi)) fun _ => ho i _ (List.getElem?_eq_getElem hi)
        · cases hd
      | _ => simp [D.aggN] at hd
  · cases h

end Go.Am
