/-
  More operations: elements, nil checks, lengths, new variables, calls.
-/
import Derived.Test.YtnenlnmfoocpdaaAmStep3
set_option linter.unusedSimpArgs false
set_option linter.unusedVariables false
namespace Go.Am

/-- expressions of several symbolic values -/
def toEAll : List SV → Option (List E)
  | [] => some []
  | s :: r => match s.toE, toEAll r with | some x, some y => some (x :: y) | _, _ => none

/-- which results are of one cell -/
def scalars (P : Program) : List TypeId → Option (List Bool)
  | [] => some []
  | t :: r => match aggT P t, scalars P r with | some b, some l => some ((!b) :: l) | _, _ => none

def tupleSV (x : E) : Nat → List Bool → List SV
  | _, [] => []
  | i, b :: r => .e (.tget i x) b :: tupleSV x (i + 1) r

/-- what a call's results are -/
def resSV (x : E) : List Bool → SV
  | [b] => .e x b
  | rs => .tup (tupleSV x 0 rs)

/-- a call of a function of the program, over data -/
def lcall (P : Program) (f : FuncId) (args : List SV) (obj : Nat → Option SObj) (ix : Nat) : Option LRes :=
  match P.funcs[f]? with
  | some fn => if (fn.name == "runtime.NumGoroutine") = true ∨ fn.body.isNone = true then none else
    match scalars P fn.resultTypes.toList, toEAll args, obj HID with
    | some rs, some xs, some (.store cf h) => if cf.wr.contains f then (if cf.ro then none else some { val := resSV (.tget 0 (.sym ix)) rs, upd := some (HID, .store cf (.tget 1 (.sym ix))), bind := some (.wcall [] f h xs rs) })
      else some { val := resSV (.sym ix) rs, bind := some (.call [] f h xs rs) }
    | _, _, _ => none
  | none => none

/-- the results' types of a function's type -/
def rsOfType (P : Program) (t : TypeId) : Option (List Bool) :=
  match P.underlying t with
  | some (.tuple ts) => scalars P ts.toList
  | some _ => scalars P [t]
  | none => none

/-- a call of a function value that is data -/
def lcallv (P : Program) (x : E) (args : List SV) (o : Oper) (obj : Nat → Option SObj) (ix : Nat) : Option LRes :=
  match rsOfType P o.type, toEAll args, obj HID with
  | some rs, some xs, some (.store cf h) => if cf.wr.contains (1000000 + o.dst.getD 999999) then (if cf.ro then none else some { val := resSV (.tget 0 (.sym ix)) rs, upd := some (HID, .store cf (.tget 1 (.sym ix))), bind := some (.wcallv [] x h xs rs) })
      else some { val := resSV (.sym ix) rs, bind := some (.callv [] x h xs rs) }
  | _, _, _ => none

def lmkfn (fn : Fn) (first caps : List SV) (ix : Nat) : Option LRes :=
  match fn, SV.toTs first, SV.toTs caps with
  | .func f, some x, some y => some { val := .e (.sym ix) true, bind := some (.ev (.mkfn f x y)) }
  | _, _, _ => none

section
variable {P : Program} {w w0 : World} {X : Ent} {a : Act} {σ : SState} {env : List D} {ρ : Rho}

theorem lindexAddr_sound {o : Oper} {t : TypeId} {x i : Operand} {sx si : SV} {ix : Nat} {r : LRes} (ho : o.op = .indexAddr t x i) (hl : lindexAddr P t sx si σ.obj ix = some r) (hx : SRd w ρ env (a.eval x) sx) (hi : SRd w ρ env (a.eval i) si) (h : Rep w0 X w a σ env ρ)
    (hd : ∀ d, o.dst = some d → d < σ.tmps.length) (hb : BindOk P env ix r.bind) : r.upd = none ∧ OpOk P o a w w0 X (σ.put o.dst r.val) env := by
  unfold lindexAddr at hl
  split at hl
  · rename_i e i' ht hi'
    cases hn : szT P e with
    | none => simp [hn] at hl
    | some n =>
    simp only [hn, Option.bind_some] at hl
    have he : P.elem t = e := by simp [Program.elem, ht]
    obtain ⟨di, hdi, hri⟩ := SV.toE_rd hi' hi
    have hexec : ∀ {b off len cap : Nat} {k : IntKind} {m : Nat}, a.eval x = .slice (some ⟨b, off, none⟩) len cap → a.eval i = .int k m → m < len → (execOp a.eval o).run P w = .ok (.value (.pointer (some ⟨b, off + m * n, none⟩))) w := by
      intro b off len cap k m hv hiv hm
      have hr := run_indexAt_slice (P := P) w t ⟨b, off, none⟩ len cap k m (by rw [he]; exact ht)
      rw [if_pos ⟨by omega, by omega⟩, he, run_sizeOf hn] at hr
      simp only [Result.andThen_ok, Int.toNat_natCast, addr_add] at hr
      unfold execOp
      simp only [ho, hv, hiv, Sem.run_bind, hr, Result.andThen_ok, Sem.run_pure]
    split at hl
    · rename_i ob
      split at hl
      · rename_i l sz hob
        split at hl
        · rename_i hsz
          cases hl
          obtain ⟨vs, ty, es, hh, hxl, hz, hvl, hr, hval, hmx, hS⟩ := h.objs ob _ hob
          obtain ⟨d, hev, hix⟩ := hb
          simp only [E.eval, hxl, hdi, Option.bind_some] at hev
          unfold D.idx at hev
          split at hev
          · rename_i es' k m hes
            cases hes
            split at hev
            · rename_i hm0
              have hml : m.toNat < es.length := (List.getElem?_eq_some_iff.1 hev).1
              have hmm : m = ((m.toNat : Nat) : Int) := by omega
              have hv : a.eval x = .slice (some ⟨ρ.blk ob, 0, none⟩) es.length es.length := hx.slc_inv.trans hval
              have hiv : a.eval i = .int k (m.toNat : Nat) := by rw [← hmm]; exact hri.v_eq
              have hp : SRd w ρ env (.pointer (some ⟨ρ.blk ob, m.toNat * n + 0, none⟩)) (.eaddr ob i' n 0) := .eaddr (k := k) (by rw [hdi, ← hmm])
              refine ⟨rfl, opOk_same h hd (hexec hv hiv hml) ?_⟩
              simpa [Nat.add_comm] using hp
            · cases hev
          · cases hev
        · cases hl
      · cases hl
    · rename_i hns
      obtain ⟨l, hl', rfl⟩ := Option.map_eq_some_iff.1 hl
      obtain ⟨dl, hdl, hrl⟩ := SV.toE_rd hl' hx
      obtain ⟨d, hev, hix⟩ := hb
      simp only [E.eval, hdl, hdi, Option.bind_some] at hev
      unfold D.eaddr at hev
      split at hev
      · rename_i es k m
        split at hev
        · rename_i hm0
          obtain ⟨el, hel, hev⟩ := Option.bind_eq_some_iff.1 hev
          split at hev
          · rename_i hcl
            cases hev
            have hml : m.toNat < es.length := (List.getElem?_eq_some_iff.1 hel).1
            have hmm : m = ((m.toNat : Nat) : Int) := by omega
            have hiv : a.eval i = .int k (m.toNat : Nat) := by rw [← hmm]; exact hri.v_eq
            generalize hv : a.eval x = v at hrl
            cases hrl with
            | nil => simp at hel
            | emp _ => simp at hel
            | @lst b off len cap size _ val hlen hc hm hz ho1 hS hw hr =>
              have hsn : size = n := by rw [← hz _ _ hel]; exact hcl
              subst hsn
              refine ⟨rfl, opOk_same h hd (hexec hv hiv (by omega)) (.e (d := .ptr el.cells) (by simp [E.eval, hix]) ?_ fun _ => rfl)⟩
              exact .ptr (val := val m.toNat) (fun j e hj => ho1 _ _ j e hel (by simpa using hj)) (fun j e hj => hS _ _ j e hel (by simpa using hj)) (fun j e hj => hw _ _ j e hel (by simpa using hj)) fun j e hj => hr _ _ j e hel (by simpa using hj)
          · cases hev
        · cases hev
      · rename_i j off len k m
        split at hev
        · rename_i hm0
          cases hev
          have hmm : m = ((m.toNat : Nat) : Int) := by omega
          have hiv : a.eval i = .int k (m.toNat : Nat) := by rw [← hmm]; exact hri.v_eq
          generalize hv : a.eval x = v at hrl
          cases hrl with
          | sl hj hle hc h0 => exact ⟨rfl, opOk_same h hd (hexec hv hiv (by omega)) (.e (d := .loc j (off + m.toNat * n)) (by simp [E.eval, hix]) (.loc hj) fun _ => rfl)⟩
        · cases hev
      · cases hev
  · cases hl

theorem lnil_sound {o : Oper} {x : Operand} {sx : SV} {ix : Nat} {r : LRes} (ho : o.op = .nilCheck x) (hl : lnil sx ix = some r) (hx : SRd w ρ env (a.eval x) sx) (h : Rep w0 X w a σ env ρ)
    (hd : ∀ d, o.dst = some d → d < σ.tmps.length) (hb : BindOk P env ix r.bind) : r.upd = none ∧ OpOk P o a w w0 X (σ.put o.dst r.val) env := by
  have hexec : ∀ {ad : Addr}, a.eval x = .pointer (some ad) → (execOp a.eval o).run P w = .ok (.value (.pointer (some ad))) w := by
    intro ad hv
    unfold execOp
    simp only [ho, hv]
    rfl
  unfold lnil at hl
  split at hl
  · cases hl; have hv := hx.addr_inv; exact ⟨rfl, opOk_same h hd (hexec hv) (hv ▸ hx)⟩
  · cases hl; obtain ⟨m, k, _, hv⟩ := hx.eaddr_inv; exact ⟨rfl, opOk_same h hd (hexec hv) (hv ▸ hx)⟩
  · rename_i fn cs
    obtain ⟨vs, hv, _⟩ := hx.func_inv
    split at hl
    · cases hl
    · rename_i hne
      cases hl
      refine ⟨rfl, opOk_same h hd (v := .func fn #[] vs) ?_ (hv ▸ hx)⟩
      unfold execOp
      simp only [ho, hv]
      cases fn <;> first | rfl | exact absurd rfl (hne _)
  · cases hl
    obtain ⟨d, _, hrd⟩ := hx.iptr_inv
    obtain ⟨b, off, hv, _⟩ := hrd.ptr_cells
    exact ⟨rfl, opOk_same h hd (hexec hv) (hv ▸ hx)⟩
  · cases hl
    obtain ⟨d, hd', hrd, _⟩ := hx.e_inv
    obtain ⟨dz, he, hix⟩ := hb
    simp only [E.eval, hd', Option.bind_some] at he
    unfold D.nn at he
    split at he
    · cases he
      obtain ⟨b, off, hv, _⟩ := hrd.ptr_cells
      exact ⟨rfl, opOk_same h hd (hexec hv) (.e (d := _) (show (E.sym ix).eval env = _ from hix) (by rw [← hv]; exact hrd) fun _ => rfl)⟩
    · cases he
      generalize hv : a.eval x = v at hrd
      cases hrd with
      | loc hi => exact ⟨rfl, opOk_same h hd (hexec hv) (.e (by simp only [E.eval, hix]) (.loc hi) fun _ => rfl)⟩
    · cases he
      have hk := hrd
      generalize hv : a.eval x = v at hrd
      cases hrd with
      | fn h1 h2 h3 h4 =>
        refine ⟨rfl, opOk_same h hd (v := a.eval x) ?_ (.e (by simp only [E.eval, hix]) hk fun _ => rfl)⟩
        unfold execOp
        simp only [ho, hv]
        rfl
    · cases he
  · cases hl

theorem exec_len {o : Oper} {t : TypeId} {x : Operand} {v : Value} (ho : o.op = .call { callee := .builtin .len, args := #[x], argTypes := #[t] }) (hr : (Builtin.len_ #[t] o.type #[a.eval x]).run P w = .ok v w) : (execOp a.eval o).run P w = .ok (.value v) w := by
  unfold execOp
  simp only [ho, resolve, invoke, builtin, Sem.run_bind, Sem.run_pure, Result.andThen_ok, List.map_toArray, List.map_cons, List.map_nil, hr]

theorem llen_sound {o : Oper} {t : TypeId} {x : Operand} {sx : SV} {ix : Nat} {r : LRes} (ho : o.op = .call { callee := .builtin .len, args := #[x], argTypes := #[t] }) (hl : llen P t sx σ.obj ix = some r) (hx : SRd w ρ env (a.eval x) sx) (h : Rep w0 X w a σ env ρ)
    (hd : ∀ d, o.dst = some d → d < σ.tmps.length) (hb : BindOk P env ix r.bind) : r.upd = none ∧ OpOk P o a w w0 X (σ.put o.dst r.val) env := by
  unfold llen at hl
  split at hl
  · rename_i e ht
    have he : P.elem t = e := by simp [Program.elem, ht]
    have hexec : ∀ {ad : Option Addr} {n c : Nat}, a.eval x = .slice ad n c → (execOp a.eval o).run P w = .ok (.value (.int .i64 n)) w := by
      intro ad n c hv
      refine exec_len ho ?_
      rw [hv]
      exact run_len_slice (P := P) w t o.type ad n c (by rw [he]; exact ht)
    have fin : ∀ {ad : Option Addr} {n c : Nat} {es : List D}, a.eval x = .slice ad n c → n = es.length → env[ix]? = some (.v (.int .i64 es.length)) → OpOk P o a w w0 X (σ.put o.dst (.e (.sym ix) true)) env := by
      intro ad n c es hv hn hix
      exact opOk_same h hd (hexec hv) (.e (d := .v (.int .i64 n)) (by rw [E.eval, hix, hn]) (.v rfl) fun _ => rfl)
    split at hl
    · rename_i ob
      split at hl
      · rename_i l sz hob
        cases hl
        obtain ⟨vs, ty, es, hh, hxl, hz, hvl, hr, hval, hmx, hS⟩ := h.objs ob _ hob
        obtain ⟨d, hev, hix⟩ := hb
        simp only [E.eval, hxl, Option.bind_some, D.lenL] at hev
        cases hev
        exact ⟨rfl, fin (hx.slc_inv.trans hval) rfl hix⟩
      · cases hl
    · obtain ⟨l, hl', rfl⟩ := Option.map_eq_some_iff.1 hl
      obtain ⟨dl, hdl, hrl⟩ := SV.toE_rd hl' hx
      obtain ⟨d, hev, hix⟩ := hb
      simp only [E.eval, hdl, Option.bind_some] at hev
      unfold D.lenL at hev
      split at hev
      · cases hev
        obtain ⟨ad, n, c, hv, hn⟩ := hrl.lst_form
        exact ⟨rfl, fin hv hn hix⟩
      · cases hev
        generalize hv : a.eval x = v at hrl
        cases hrl with
        | sl hi hle hc h0 => exact ⟨rfl, opOk_same h hd (hexec hv) (.e (by simp only [E.eval, hix]) (.v rfl) fun _ => rfl)⟩
      · cases hev
        generalize hv : a.eval x = v at hrl
        cases hrl with
        | snil => exact ⟨rfl, opOk_same h hd (hexec hv) (.e (by simp only [E.eval, hix]; rfl) (.v rfl) fun _ => rfl)⟩
      · cases hev
  · rename_i ht
    obtain ⟨l, hl', rfl⟩ := Option.map_eq_some_iff.1 hl
    obtain ⟨dl, hdl, hrl⟩ := SV.toE_rd hl' hx
    obtain ⟨d, hev, hix⟩ := hb
    simp only [E.eval, hdl, Option.bind_some] at hev
    unfold D.lenS at hev
    split at hev
    · rename_i s
      cases hev
      have hv := hrl.v_eq
      exact ⟨rfl, opOk_same h hd (exec_len ho (v := .int .i64 s.size) (by rw [hv]; simp [Builtin.len_, run_underlying ht, goInt])) (.e (by simp only [E.eval, hix]) (.v rfl) fun _ => rfl)⟩
    · cases hev
  · cases hl

/-- A new variable. -/
theorem newBox {o : Oper} {d : Nat} {vs : Array Value} {cs : List SV} {ty : TypeId} (h : Rep w0 X w a σ env ρ) (hdst : o.dst = some d) (hd : d < σ.tmps.length) (hdm : d < σ.mem.length) (hfree : σ.obj d = none) (hav : σ.avoids d)
    (hl : vs.size = cs.length) (hone : ∀ (i : Nat) (v : Value), vs[i]? = some v → v.oneCell' = true) (hr : ∀ (i : Nat) (v : Value) (c : SV), vs[i]? = some v → cs[i]? = some c → SRd w ρ env v c) (hcav : SV.avoidsAll d cs = true)
    (hrun : (execOp a.eval o).run P w = .ok (.value (.pointer (some ⟨w.heap.size, 0, none⟩))) (w.alloc (.cells vs ty))) : OpOk P o a w w0 X ((σ.setObj d (some (.box cs))).put o.dst (.addr d 0)) env := by
  have hk : Keeps ρ.S w (w.alloc (.cells vs ty)) := Keeps.alloc h.cells _
  have hrep := h.withObj (o := d) (x := .box cs) (v := undef) hdm hfree hav hk (fun b hb => heapOld w _ b hb) rfl rfl rfl (by simp) ?_ ?_
  · refine opOk_value hrun (hrep.put (by rw [hdst]; intro d' e; cases e; rw [SState.tmps_setObj]; exact hd) ?_)
    have hbk : (ρ.withObj d w.heap.size undef).blk d = w.heap.size := by simp [Rho.withObj]
    have hp : SRd (w.alloc (.cells vs ty)) (ρ.withObj d w.heap.size undef) env (.pointer (some ⟨(ρ.withObj d w.heap.size undef).blk d, 0, none⟩)) (.addr d 0) := .addr
    rwa [hbk] at hp
  · refine ⟨vs, ty, ?_, hl, hone, fun i v c hv hc => (hr i v c hv hc).keep hk (ρ.withObj_more _ _ _) fun o' e => by subst e; exact SV.avoidsAll_get hcav hc, fun off hs => ?_⟩
    · simp only [Rho.withObj, if_true]
      exact heap_alloc_new w _
    · have := h.cells _ off hs
      simp [Rho.withObj] at this
  · intro b hb
    simpa [objBlk, Rho.withObj] using hb.symm

theorem constSV_avoids (d : Nat) (v : Value) : (constSV v).avoids d = true := by unfold constSV; split <;> rfl

theorem zero_avoids (d : Nat) : ∀ (l : List Value), SV.avoidsAll d (l.map constSV) = true
  | [] => rfl
  | v :: r => by simp [SV.avoidsAll, constSV_avoids, zero_avoids d r]

/-- the zero value's cells are of one cell each -/
def zeroOnes (P : Program) (t : TypeId) : Bool := match (P.info? t).bind (·.zero) with | some z => z.cells.toList.all (·.oneCell') | none => false

theorem lalloc_sound {o : Oper} {t : TypeId} {r : LRes} (ho : o.op = .alloc t) (hz1 : zeroOnes P t = true) (hl : lalloc P t o.dst = some r) (h : Rep w0 X w a σ env ρ) (hd : ∀ d, o.dst = some d → d < σ.tmps.length) (hm : σ.mem.length = σ.tmps.length)
    (hfree : ∀ d, o.dst = some d → σ.obj d = none ∧ σ.avoids d) : ∃ d x, o.dst = some d ∧ r.upd = some (d, x) ∧ r.bind = none ∧ OpOk P o a w w0 X ((σ.setObj d (some x)).put o.dst r.val) env := by
  unfold lalloc at hl
  split at hl
  · rename_i d cs hdst hz
    cases hl
    unfold zeroSVs at hz
    obtain ⟨z, hz0, rfl⟩ := Option.map_eq_some_iff.1 hz
    refine ⟨d, _, hdst, rfl, rfl, ?_⟩
    have hd' := hd d hdst
    obtain ⟨hf, hav⟩ := hfree d hdst
    have hrun : (execOp a.eval o).run P w = .ok (.value (.pointer (some ⟨w.heap.size, 0, none⟩))) (w.alloc (.cells z.cells t)) := by
      unfold execOp
      simp only [ho, Instr.alloc, Sem.run_bind, run_zeroValue hz0, Result.andThen_ok, newVar, newRow, Sem.run_pure, run_newObj]
      rfl
    refine newBox (vs := z.cells) (cs := z.cells.toList.map constSV) h hdst hd' (Nat.lt_of_lt_of_eq hd' hm.symm) hf hav (by simp) (fun i v hv => ?_) (fun i v c hv hc => ?_) (zero_avoids d _) hrun
    · unfold zeroOnes at hz1
      rw [hz0] at hz1
      simp only [List.all_eq_true] at hz1
      exact hz1 v (List.mem_of_getElem? (by simpa using hv))
    · simp only [List.getElem?_map] at hc
      have hv' : z.cells.toList[i]? = some v := by simpa using hv
      rw [hv'] at hc
      cases hc
      exact constSV_rd v
  · cases hl

theorem SV.split_avoids {n ix : Nat} {sv : SV} {cs : List SV} {b : Option Bind} {d : Nat} (h : sv.split n ix = some (cs, b)) (ha : sv.avoids d = true) : SV.avoidsAll d cs = true := by
  have all : ∀ (l : List SV), (∀ c, c ∈ l → c.avoids d = true) → SV.avoidsAll d l = true := by
    intro l
    induction l with
    | nil => intro _; rfl
    | cons c r ih => intro hh; simp only [SV.avoidsAll, Bool.and_eq_true]; exact ⟨hh c (by simp), ih fun x hx => hh x (by simp [hx])⟩
  unfold SV.split at h
  split at h
  · split at h
    · cases h; simpa [SV.avoids] using ha
    · cases h
  · split at h
    · cases h
      refine all _ fun c hc => ?_
      simp only [List.mem_map] at hc
      obtain ⟨_, _, rfl⟩ := hc
      rfl
    · cases h
  · cases h
    refine all _ fun c hc => ?_
    simp only [List.mem_map] at hc
    obtain ⟨_, _, rfl⟩ := hc
    rfl
  · cases h

theorem SV.cellsOf_avoids {agg : Bool} {n ix : Nat} {obj : Nat → Option SObj} {sv : SV} {cs : List SV} {b : Option Bind} {d : Nat} (h : sv.cellsOf agg n ix obj = some (cs, b)) (ha : sv.avoids d = true) : SV.avoidsAll d cs = true := by
  unfold SV.cellsOf at h
  cases agg with
  | true => simp only [if_true] at h; exact SV.split_avoids h ha
  | false =>
    simp only [Bool.false_eq_true, if_false] at h
    split at h <;> first
      | (cases h; simp only [SV.avoidsAll, Bool.and_true]; first | exact ha | rfl)
      | (split at h
         · cases h; simpa [SV.avoidsAll] using ha
         · cases h)
      | cases h

theorem lbox_sound {o : Oper} {t : TypeId} {x : Operand} {sx : SV} {ix : Nat} {r : LRes} (ho : o.op = .box t x) (hl : lbox P t sx o.dst σ.obj ix = some r) (hx : SRd w ρ env (a.eval x) sx) (h : Rep w0 X w a σ env ρ) (hd : ∀ d, o.dst = some d → d < σ.tmps.length) (hm : σ.mem.length = σ.tmps.length)
    (hfree : ∀ d, o.dst = some d → σ.obj d = none ∧ σ.avoids d ∧ sx.avoids d = true) (hb : BindOk P env ix r.bind) : ∃ d x, o.dst = some d ∧ r.upd = some (d, x) ∧ OpOk P o a w w0 X ((σ.setObj d (some x)).put o.dst r.val) env := by
  unfold lbox at hl
  split at hl
  · rename_i d agg n hdst hg hn
    obtain ⟨⟨cs, b⟩, hcs, rfl⟩ := Option.map_eq_some_iff.1 hl
    refine ⟨d, _, hdst, rfl, ?_⟩
    have hd' := hd d hdst
    obtain ⟨hf, hav, hxav⟩ := hfree d hdst
    obtain ⟨h1, h2, h3⟩ := SV.cellsOf_rd (P := P) h.objs hcs hb hx
    have hrun : (execOp a.eval o).run P w = .ok (.value (.pointer (some ⟨w.heap.size, 0, none⟩))) (w.alloc (.cells (a.eval x).cells t)) := by
      unfold execOp
      simp only [ho, Instr.box, Sem.run_bind, Result.andThen_ok, newVar, newRow, Sem.run_pure, run_newObj]
      rfl
    exact newBox h hdst hd' (Nat.lt_of_lt_of_eq hd' hm.symm) hf hav h1 h2 h3 (SV.cellsOf_avoids hcs hxav) hrun
  · cases hl

theorem toEAll_rd : ∀ {svs : List SV} {xs : List E} {vs : List Value}, toEAll svs = some xs → vs.length = svs.length → (∀ (i : Nat) (v : Value) (c : SV), vs[i]? = some v → svs[i]? = some c → SRd w ρ env v c) →
    ∃ ds, evalAll env xs = some ds ∧ vs.length = ds.length ∧ ∀ (i : Nat) (v : Value) (d : D), vs[i]? = some v → ds[i]? = some d → RdD w ρ.S v d
  | [], xs, vs, h, hl, _ => by
    simp [toEAll] at h; subst h
    have : vs = [] := List.eq_nil_of_length_eq_zero (by simpa using hl)
    subst this
    exact ⟨[], rfl, rfl, by simp⟩
  | s :: r, xs, vs, h, hl, hh => by
    match vs, hl with
    | v :: vs, hl =>
      simp only [toEAll] at h
      split at h
      · rename_i y z hy hz
        cases h
        obtain ⟨d, hd, hrd⟩ := SV.toE_rd hy (hh 0 v s rfl rfl)
        obtain ⟨ds, he, hdl, hds⟩ := toEAll_rd (vs := vs) hz (by simpa using hl) fun i v c hv hc => hh (i + 1) v c (by simpa using hv) (by simpa using hc)
        refine ⟨d :: ds, by simp [evalAll, hd, he], by simp [hdl], fun i v' d' hv hd' => ?_⟩
        cases i with
        | zero => simp at hv hd'; subst hv hd'; exact hrd
        | succ i => exact hds i v' d' (by simpa using hv) (by simpa using hd')
      · cases h

theorem tupleSV_get (x : E) : ∀ (rs : List Bool) (k i : Nat) (c : SV), (tupleSV x k rs)[i]? = some c → ∃ b, rs[i]? = some b ∧ c = .e (.tget (k + i) x) b
  | [], _, _, _, h => by simp [tupleSV] at h
  | b :: r, k, 0, c, h => by simp [tupleSV] at h; exact ⟨b, rfl, h.symm⟩
  | b :: r, k, i + 1, c, h => by
    obtain ⟨b', h1, h2⟩ := tupleSV_get x r (k + 1) i c (by simpa [tupleSV] using h)
    exact ⟨b', by simpa using h1, by rw [h2, show k + 1 + i = k + (i + 1) from by omega]⟩

theorem tupleSV_length (x : E) : ∀ (rs : List Bool) (k : Nat), (tupleSV x k rs).length = rs.length
  | [], _ => rfl
  | _ :: r, k => by simp [tupleSV, tupleSV_length x r]

theorem fitsAll_get : ∀ {rs : List Bool} {ds : List D}, fitsAll rs ds = true → rs.length = ds.length ∧ ∀ (i : Nat) (b : Bool) (d : D), rs[i]? = some b → ds[i]? = some d → b = true → d.one = true
  | [], [], _ => ⟨rfl, by simp⟩
  | [], _ :: _, h => by simp [fitsAll] at h
  | _ :: _, [], h => by simp [fitsAll] at h
  | b :: r, d :: s, h => by
    simp only [fitsAll, Bool.and_eq_true, Bool.or_eq_true, Bool.not_eq_true'] at h
    obtain ⟨h1, h2⟩ := fitsAll_get h.2
    refine ⟨by simp [h1], fun i b' d' hb hd ht => ?_⟩
    cases i with
    | zero => simp at hb hd; subst hb hd; exact h.1.resolve_left (by simp [ht])
    | succ i => exact h2 i b' d' (by simpa using hb) (by simpa using hd) ht

theorem resSV_rd {x : E} {rs : List Bool} {v : Value} {d : D} (hx : x.eval env = some d) (hr : RdD w ρ.S v d) (hfit : d.fits rs = true) : SRd w ρ env v (resSV x rs) := by
  unfold resSV
  split
  · rename_i b
    simp only [D.fits, Bool.or_eq_true, Bool.not_eq_true'] at hfit
    exact .e hx hr fun hbt => hfit.resolve_left (by simp [hbt])
  · rename_i hne
    have hfit' : ∃ ds, d = .tup ds ∧ fitsAll rs ds = true := by
      unfold D.fits at hfit
      split at hfit
      · exact (hne _ rfl).elim
      · split at hfit
        · exact ⟨_, rfl, hfit⟩
        · cases hfit
    obtain ⟨ds, rfl, hfa⟩ := hfit'
    obtain ⟨hfl, hfo⟩ := fitsAll_get hfa
    obtain ⟨vs, rfl, hvl, hvr⟩ := hr.tup_inv
    refine .tup (by rw [tupleSV_length, hvl, hfl]) fun i v c hv hc' => ?_
    obtain ⟨b, hb', rfl⟩ := tupleSV_get x rs 0 i c hc'
    have hi : i < ds.length := by rw [← hfl]; exact (List.getElem?_eq_some_iff.1 hb').1
    exact .e (d := ds[i]) (by simp [E.eval, hx, D.tget, hi]) (hvr i v _ hv (List.getElem?_eq_getElem hi)) fun hbt => hfo i b _ hb' (List.getElem?_eq_getElem hi) hbt

/-- 'below' what the call found, the caller's memory is as it was -/
theorem Rep.behind {w' : World} {S' : Sets} (h : Rep w0 X w a σ env ρ) (hb : RowKit.Below w.heap.size w w') (h1 : ρ.S ≤ S') (hn : S'.n = ρ.S.n) (h2 : ∀ b o, S' b o → ρ.S b o ∨ w.heap.size ≤ b) (h3 : ∀ b o, S' b o → b < w'.heap.size) : Rep w0 X w' a σ env { ρ with S := S' } := by
  refine h.move (fun b o hs => hb.cell (p := ⟨b, o, none⟩) (h.cells b o hs)) ⟨⟨fun _ _ => rfl, fun _ _ => rfl, h1⟩, fun _ => hn, fun _ => rfl⟩ (fun o x b ho hx => hb.block b (h.own o x b ho hx).2) (fun o x b off ho hx hs => ?_) h3 hb.os hb.tape hb.output hb.size (fun b hlt _ => hb.block b (Nat.lt_of_lt_of_le hlt h.grown)) (fun b o hs => (h2 b o hs).elim .inl fun e => .inr (Nat.le_trans h.grown e))
  rcases h2 b off hs with h4 | h4
  · exact h4
  · have := (h.own o x b ho hx).2; omega

theorem foot_lt (h : Rep w0 X w a σ env ρ) {cf : StCfg} {x : E} (hx : σ.obj HID = some (.store cf x)) : ∀ b, ρ.foot b → b < w.heap.size := fun b hb => (h.own HID _ b hx hb).2

theorem lcall_sound {o : Oper} {f : FuncId} {c : Operand} {args : Array Operand} {ts : Array TypeId} {svs : List SV} {ix : Nat} {r : LRes} (ho : o.op = .call { callee := .value c, args := args, argTypes := ts }) (hc : a.eval c = .func (.func f) #[] #[])
    (hl : lcall P f svs σ.obj ix = some r) (hlen : args.size = svs.length) (hx : ∀ (i : Nat) (x : Operand) (s : SV), args[i]? = some x → svs[i]? = some s → SRd w ρ env (a.eval x) s) (h : Rep w0 X w a σ env ρ) (hd : ∀ d, o.dst = some d → d < σ.tmps.length)
    (hb : BindOk P env ix r.bind) : (r.upd = none ∧ OpOk P o a w w0 X (σ.put o.dst r.val) env) ∨ ∃ ob z, r.upd = some (ob, z) ∧ OpOk P o a w w0 X ((σ.setObj ob (some z)).put o.dst r.val) env := by
  unfold lcall at hl
  split at hl
  · rename_i fn hf
    split at hl
    · cases hl
    · rename_i hnb
      simp only [not_or, Bool.not_eq_true] at hnb
      have hrun : (execOp a.eval o).run P w = .ok (.enter f (args.map a.eval)) w := by
        unfold execOp
        simp only [ho, resolve, hc, Deferred.ofValue, invoke, Sem.run_bind, Sem.run_pure, Result.andThen_ok, callFunc, run_program, hf, hnb.1, hnb.2, Bool.false_eq_true, if_false]
        simp
      split at hl
      · rename_i rs xs cf hE hrs hxs hob
        obtain ⟨bs, hbe, hst, _⟩ := h.objs _ _ hob
        obtain ⟨ds', hev', hdl, hrd⟩ := toEAll_rd (vs := (args.map a.eval).toList) hxs (by simpa using hlen) (fun i v s hv hs => by
          simp only [Array.toList_map, List.getElem?_map, Option.map_eq_some_iff] at hv
          obtain ⟨x, hx', rfl⟩ := hv
          exact hx i x s (by simpa using hx') hs)
        split at hl
        · split at hl
          · cases hl
          · rename_i hro
            cases hl
            refine .inr ⟨HID, _, rfl, fun Q => ?_⟩
            obtain ⟨st, d, h', hse, hix, hbo, _⟩ := hb
            obtain ⟨ds, hev, hspec, hfit⟩ := hbo (by intro p hp; cases hp)
            rw [hbe] at hse
            cases hse
            rw [hev] at hev'
            cases hev'
            rw [hrun]
            refine ⟨fun e => (by cases e), callsIn_wide.2 ?_⟩
            refine (hspec w ρ.S ρ.foot bs (args.map a.eval) rfl hst (h.holdOk hob) (foot_lt h hob) h.cells (by simpa using hdl) (fun i v x hv hx' => hrd i v x (by simpa using hv) hx')).mono ?_
            rintro e w' ⟨v, S', foot', bs', ⟨rfl, hr⟩, rfl, hst', hk, hS, hos, ht, hout, hsz, hbl, hf', hS2, hS3⟩
            have hrep := h.setStore (x' := .tget 1 (.sym ix)) hob (by simpa using hro) (by simp only [E.eval, hix]; rfl) hst' hk hS hos ht hout hsz hbl hf' hS2 hS3
            exact ⟨_, hrep.put (by rw [SState.tmps_setObj]; exact hd) (resSV_rd (by simp only [E.eval, hix]; rfl) hr hfit)⟩
        · cases hl
          refine .inl ⟨rfl, fun Q => ?_⟩
          obtain ⟨d, hix, hbo⟩ := hb
          obtain ⟨st, ds, hse, hev, hspec, hfit⟩ := hbo (by intro p hp; cases hp)
          rw [hbe] at hse
          cases hse
          rw [hev] at hev'
          cases hev'
          rw [hrun]
          refine ⟨fun e => (by cases e), callsIn_wide.2 ?_⟩
          refine (hspec w ρ.S ρ.foot bs (args.map a.eval) rfl hst (h.holdOk hob) (foot_lt h hob) h.cells (by simpa using hdl) (fun i v x hv hx' => hrd i v x (by simpa using hv) hx')).mono ?_
          rintro e w' ⟨v, S', ⟨rfl, hr⟩, hbelow, hs1, hsn, hs2, hs3⟩
          exact ⟨_, (h.behind hbelow hs1 hsn hs2 hs3).put hd (resSV_rd (by simp only [E.eval, hix]) hr hfit)⟩
      · cases hl
  · cases hl

theorem get3 {α : Type} {us vs ws : List α} {β : Type} {as bs cs : List β} {R : α → β → Prop} (h1 : us.length = as.length) (h2 : vs.length = bs.length) (g1 : ∀ (i : Nat) u a, us[i]? = some u → as[i]? = some a → R u a) (g2 : ∀ (i : Nat) u a, vs[i]? = some u → bs[i]? = some a → R u a) (g3 : ∀ (i : Nat) u a, ws[i]? = some u → cs[i]? = some a → R u a) :
    ∀ (i : Nat) u a, (us ++ vs ++ ws)[i]? = some u → (as ++ bs ++ cs)[i]? = some a → R u a := by
  intro i u a hu ha
  rw [List.append_assoc] at hu ha
  rcases Nat.lt_or_ge i us.length with h | h
  · rw [List.getElem?_append_left h] at hu
    rw [List.getElem?_append_left (by omega)] at ha
    exact g1 i u a hu ha
  · rw [List.getElem?_append_right h] at hu
    rw [List.getElem?_append_right (by omega)] at ha
    rw [← h1] at ha
    rcases Nat.lt_or_ge (i - us.length) vs.length with h' | h'
    · rw [List.getElem?_append_left h'] at hu
      rw [List.getElem?_append_left (by omega)] at ha
      exact g2 _ u a hu ha
    · rw [List.getElem?_append_right h'] at hu
      rw [List.getElem?_append_right (by omega)] at ha
      rw [← h2] at ha
      exact g3 _ u a hu ha

theorem lcallv_sound {o : Oper} {c : Operand} {xe : E} {sb : Bool} {args : Array Operand} {ts : Array TypeId} {svs : List SV} {ix : Nat} {r : LRes} (ho : o.op = .call { callee := .value c, args := args, argTypes := ts }) (hc : SRd w ρ env (a.eval c) (.e xe sb))
    (hl : lcallv P xe svs o σ.obj ix = some r) (hlen : args.size = svs.length) (hx : ∀ (i : Nat) (x : Operand) (s : SV), args[i]? = some x → svs[i]? = some s → SRd w ρ env (a.eval x) s) (h : Rep w0 X w a σ env ρ) (hd : ∀ d, o.dst = some d → d < σ.tmps.length)
    (hb : BindOk P env ix r.bind) : (r.upd = none ∧ OpOk P o a w w0 X (σ.put o.dst r.val) env) ∨ ∃ ob z, r.upd = some (ob, z) ∧ OpOk P o a w w0 X ((σ.setObj ob (some z)).put o.dst r.val) env := by
  unfold lcallv at hl
  split at hl
  · rename_i rs xs cf hE hrs hxs hob
    obtain ⟨bs, hbe, hst, _⟩ := h.objs _ _ hob
    obtain ⟨dc, hdc, hrc, _⟩ := hc.e_inv
    obtain ⟨ds', hev', hdl, hrd⟩ := toEAll_rd (vs := (args.map a.eval).toList) hxs (by simpa using hlen) (fun i v s hv hs => by
      simp only [Array.toList_map, List.getElem?_map, Option.map_eq_some_iff] at hv
      obtain ⟨x, hx', rfl⟩ := hv
      exact hx i x s (by simpa using hx') hs)
    -- the run enters the function
    have enter : ∀ {f : FuncId} {us cs : List D}, dc = .fn f us cs → callable P f = true → ∃ uv cv : Array Value, (execOp a.eval o).run P w = .ok (.enter f (uv ++ args.map a.eval ++ cv)) w ∧ uv.size = us.length ∧ cv.size = cs.length ∧
        (∀ (i : Nat) (v : Value) (d : D), uv[i]? = some v → us[i]? = some d → RdD w ρ.S v d) ∧ ∀ (i : Nat) (v : Value) (d : D), cv[i]? = some v → cs[i]? = some d → RdD w ρ.S v d := by
      intro f us cs he hcl
      subst he
      generalize hv : a.eval c = v at hrc
      cases hrc with
      | @fn _ uv cv _ _ h1 h2 h3 h4 =>
        refine ⟨uv, cv, ?_, h1, h2, h3, h4⟩
        unfold callable at hcl
        split at hcl
        · rename_i fn hf
          simp only [Bool.and_eq_true, Bool.not_eq_true', Option.isSome_iff_ne_none] at hcl
          have hbn : fn.body.isNone = false := by
            cases hb : fn.body with
            | none => exact absurd hb hcl.2
            | some _ => rfl
          unfold execOp
          simp only [ho, resolve, hv, Deferred.ofValue, invoke, Sem.run_bind, Sem.run_pure, Result.andThen_ok, callFunc, run_program, hf, hcl.1, hbn, Bool.false_eq_true, if_false]
        · cases hcl
    split at hl
    · split at hl
      · cases hl
      · rename_i hro
        cases hl
        refine .inr ⟨HID, _, rfl, fun Q => ?_⟩
        obtain ⟨st, d, h', hse, hix, hbo, _⟩ := hb
        obtain ⟨xd, ds, hxe, hev, hcall, hfit⟩ := hbo (by intro p hp; cases hp)
        rw [hdc] at hxe
        cases hxe
        rw [hbe] at hse
        cases hse
        rw [hev] at hev'
        cases hev'
        unfold CallV at hcall
        split at hcall
        · rename_i f us cs
          obtain ⟨hcl, hspec⟩ := hcall
          obtain ⟨uv, cv, hrun, hul, hcll, hur, hcr⟩ := enter rfl hcl
          rw [hrun]
          refine ⟨fun e => (by cases e), callsIn_wide.2 ?_⟩
          refine (hspec w ρ.S ρ.foot bs _ rfl hst (h.holdOk hob) (foot_lt h hob) h.cells (by simp at hdl; simp [hul, hcll, hdl]) (fun i v x hv hx' => get3 (us := uv.toList) (vs := (args.map a.eval).toList) (ws := cv.toList) (R := fun v x => RdD w ρ.S v x) (by simpa using hul) hdl (fun i u x hu hx => hur i u x (by simpa using hu) hx) hrd (fun i u x hu hx => hcr i u x (by simpa using hu) hx) i v x (by rw [← Array.toList_append, ← Array.toList_append, Array.getElem?_toList]; exact hv) hx')).mono ?_
          rintro e w' ⟨v, S', foot', bs', ⟨rfl, hr⟩, rfl, hst', hk, hS, hos, ht, hout, hsz, hbl, hf', hS2, hS3⟩
          have hrep := h.setStore (x' := .tget 1 (.sym ix)) hob (by simpa using hro) (by simp only [E.eval, hix]; rfl) hst' hk hS hos ht hout hsz hbl hf' hS2 hS3
          exact ⟨_, hrep.put (by rw [SState.tmps_setObj]; exact hd) (resSV_rd (by simp only [E.eval, hix]; rfl) hr hfit)⟩
        · rename_i l rec sl caps
          obtain ⟨rfl, hspec⟩ := hcall
          obtain ⟨l', f, tmps, assign, body, hyv, hrun, hround⟩ := hspec w ρ.S ρ.foot bs (args.map a.eval) (a.eval c) rfl hst (h.holdOk hob) (foot_lt h hob) h.cells hrc (by simpa using hdl) (fun i v x hv hx' => hrd i v x (by simpa using hv) hx')
          have hrun' : (execOp a.eval o).run P w = .ok (.round l' f tmps assign body) w := by
            unfold execOp
            simp only [ho, resolve, hyv, Deferred.ofValue, invoke, Sem.run_bind, Sem.run_pure, Result.andThen_ok]
            simpa using hrun
          rw [hrun']
          refine ⟨fun e => (by cases e), hround.mono ?_⟩
          rintro e w' ⟨S', foot', bs', rfl, rfl, hst', hk, hS, hos, ht, hout, hsz, hbl, hf', hS2, hS3⟩
          have hrep := h.setStore (x' := .tget 1 (.sym ix)) hob (by simpa using hro) (by simp only [E.eval, hix]; rfl) hst' hk hS hos ht hout hsz hbl hf' hS2 hS3
          exact ⟨_, hrep.put (by rw [SState.tmps_setObj]; exact hd) (resSV_rd (by simp only [E.eval, hix]; rfl) (.v rfl) hfit)⟩
        · exact hcall.elim
    · cases hl
      refine .inl ⟨rfl, fun Q => ?_⟩
      obtain ⟨d, hix, hbo⟩ := hb
      obtain ⟨f, us, cs, st, ds, hxe, hcl, hse, hev, hspec, hfit⟩ := hbo (by intro p hp; cases hp)
      rw [hdc] at hxe
      cases hxe
      obtain ⟨uv, cv, hrun, hul, hcll, hur, hcr⟩ := enter rfl hcl
      rw [hbe] at hse
      cases hse
      rw [hev] at hev'
      cases hev'
      rw [hrun]
      refine ⟨fun e => (by cases e), callsIn_wide.2 ?_⟩
      refine (hspec w ρ.S ρ.foot bs _ rfl hst (h.holdOk hob) (foot_lt h hob) h.cells (by simp at hdl; simp [hul, hcll, hdl]) (fun i v x hv hx' => get3 (us := uv.toList) (vs := (args.map a.eval).toList) (ws := cv.toList) (R := fun v x => RdD w ρ.S v x) (by simpa using hul) hdl (fun i u x hu hx => hur i u x (by simpa using hu) hx) hrd (fun i u x hu hx => hcr i u x (by simpa using hu) hx) i v x (by rw [← Array.toList_append, ← Array.toList_append, Array.getElem?_toList]; exact hv) hx')).mono ?_
      rintro e w' ⟨v, S', ⟨rfl, hr⟩, hbelow, hs1, hsn, hs2, hs3⟩
      exact ⟨_, (h.behind hbelow hs1 hsn hs2 hs3).put hd (resSV_rd (by simp only [E.eval, hix]) hr hfit)⟩
  · cases hl

theorem lmkfn_sound {o : Oper} {fn : Fn} {first caps : Array Operand} {fs cs : List SV} {ix : Nat} {r : LRes} (ho : o.op = .makeFunc fn first caps) (hl : lmkfn fn fs cs ix = some r) (hfl : first.size = fs.length) (hcl : caps.size = cs.length)
    (hf : ∀ (i : Nat) (x : Operand) (s : SV), first[i]? = some x → fs[i]? = some s → SRd w ρ env (a.eval x) s) (hc : ∀ (i : Nat) (x : Operand) (s : SV), caps[i]? = some x → cs[i]? = some s → SRd w ρ env (a.eval x) s)
    (h : Rep w0 X w a σ env ρ) (hd : ∀ d, o.dst = some d → d < σ.tmps.length) (hb : BindOk P env ix r.bind) : r.upd = none ∧ OpOk P o a w w0 X (σ.put o.dst r.val) env := by
  unfold lmkfn at hl
  split at hl
  · rename_i f x y hx hy
    cases hl
    have go : ∀ {os : Array Operand} {ss : List SV} {x : E}, SV.toTs ss = some x → os.size = ss.length → (∀ (i : Nat) (x : Operand) (s : SV), os[i]? = some x → ss[i]? = some s → SRd w ρ env (a.eval x) s) →
        ∃ ds, x.eval env = some (.tup ds) ∧ (os.map a.eval).size = ds.length ∧ ∀ (i : Nat) (v : Value) (d : D), (os.map a.eval)[i]? = some v → ds[i]? = some d → RdD w ρ.S v d := by
      intro os ss x hx hl hh
      obtain ⟨ds, h1, h2, h3⟩ := SV.toTs_rd (w := w) (ρ := ρ) (env := env) (vs := (os.map a.eval).toList) hx (by simpa using hl) (fun i v c hv hc => by
        simp only [Array.toList_map, List.getElem?_map, Option.map_eq_some_iff] at hv
        obtain ⟨z, hz, rfl⟩ := hv
        exact hh i z c (by simpa using hz) hc)
      exact ⟨ds, h1, by simpa using h2, fun i v d hv hd => h3 i v d (by simpa using hv) hd⟩
    obtain ⟨us, h1, h2, h3⟩ := go hx hfl hf
    obtain ⟨es, h4, h5, h6⟩ := go hy hcl hc
    obtain ⟨d, he, hix⟩ := hb
    simp only [E.eval, h1, h4, Option.bind_some, D.mkfn] at he
    cases he
    refine ⟨rfl, opOk_same h hd (v := .func (.func f) (first.map a.eval) (caps.map a.eval)) ?_ (.e (d := .fn f us es) (by simp [E.eval, hix]) (.fn h2 h5 h3 h6) fun _ => rfl)⟩
    unfold execOp
    simp [ho, Instr.makeFunc]
  · cases hl

end
end Go.Am
