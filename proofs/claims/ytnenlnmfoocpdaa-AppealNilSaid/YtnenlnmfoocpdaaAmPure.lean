/-
  More operations that change no object: 'min', 'max', slice expressions, interface values.
-/
import Derived.Test.YtnenlnmfoocpdaaAmRegion
import Derived.Laws.Slices
import Derived.Laws.Small
set_option linter.unusedSimpArgs false
set_option linter.unusedVariables false
namespace Go.Am

def loE (opv : Operand → SV) : Option Operand → Option E
  | none => some (.const (.v (.int .i64 0)))
  | some x => (opv x).toE

def hiE (opv : Operand → SV) (l : E) : Option Operand → Option E
  | none => some (.lenL l)
  | some x => (opv x).toE

def isIface (P : Program) (t : TypeId) : Bool := match P.underlying t with | some (.interface _) => true | some _ => false | none => true

def lslice (P : Program) (t : TypeId) (x : SV) (lo hi : Option E) (ix : Nat) : Option LRes :=
  match P.underlying t, x.toE, lo, hi with
  | some (.slice e), some x', some l, some h => (szT P e).map fun n => { val := .e (.sym ix) true, bind := some (.ev (.sub n x' l h)) }
  | _, _, _, _ => none

def isNilIf : Operand → Bool
  | .const .nilIface => true
  | _ => false

/-- comparing an interface value with nil -/
def lifnil (P : Program) (t : TypeId) (x : SV) (y : Operand) (neg : Bool) (ix : Nat) : Option LRes :=
  match P.underlying t with
  | some (.interface _) => if isNilIf y then x.toE.map fun x' => { val := .e (.sym ix) true, bind := some (.ev (.m4 (.ifnil neg) x' .nil .nil .nil)) } else none
  | _ => none

/-- what an interface value holds, if it is of a type -/
def ltassert (P : Program) (t : TypeId) (x : SV) (ix : Nat) : Option LRes :=
  if isIface P t then none else match x.toE, ((P.info? t).bind (·.zero)).bind D.ofVal with
  | some x', some z => some { val := .tup [.e (.tget 0 (.sym ix)) false, .e (.tget 1 (.sym ix)) true], bind := some (.ev (.m4 (.tassert t) x' (.const z) .nil .nil)) }
  | _, _ => none

def lpure (P : Program) (o : Oper) (opv : Operand → SV) (ix : Nat) : Option LRes :=
  match o.op with
  | .binOp .eql t x y _ => lifnil P t (opv x) y false ix
  | .binOp .neq t x y _ => lifnil P t (opv x) y true ix
  | .typeAssert x _ t true => ltassert P t (opv x) ix
  | .makeInterface t x => if isIface P t then none else (opv x).toE.map fun x' => { val := .e (.ifc t x') true }
  | .slice t x lo hi none => ((opv x).toE).bind fun x' => lslice P t (opv x) (loE opv lo) (hiE opv x' hi) ix
  | .call c => match c.callee, c.args.toList with
    | .builtin .max, [x, y] => (match (opv x).toE, (opv y).toE with
      | some x', some y' => some { val := .e (.sym ix) true, bind := some (.ev (.mm true x' y')) }
      | _, _ => none)
    | .builtin .min, [x, y] => (match (opv x).toE, (opv y).toE with
      | some x', some y' => some { val := .e (.sym ix) true, bind := some (.ev (.mm false x' y')) }
      | _, _ => none)
    | _, _ => none
  | _ => none

theorem lpure_congr {P : Program} {o : Oper} {opv opv' : Operand → SV} {ix : Nat} (hv : ∀ x, x ∈ o.op.operands → opv' x = opv x) : lpure P o opv' ix = lpure P o opv ix := by
  unfold lpure
  generalize hop : o.op = op at *
  cases op <;> try rfl
  case makeInterface t x => simp only; rw [hv x (by simp [Op.operands])]
  case binOp op t x y yt => cases op <;> first | rfl | (simp only; rw [hv x (by simp [Op.operands])])
  case typeAssert x xt t ok => cases ok <;> first | rfl | (simp only; rw [hv x (by simp [Op.operands])])
  case slice t x lo hi mx =>
    cases mx with
    | some m => rfl
    | none =>
      simp only
      rw [hv x (by simp [Op.operands])]
      have h1 : loE opv' lo = loE opv lo := by
        cases lo with
        | none => rfl
        | some y => simp only [loE]; rw [hv y (by simp [Op.operands])]
      have h2 : ∀ l, hiE opv' l hi = hiE opv l hi := by
        intro l
        cases hi with
        | none => rfl
        | some y => simp only [hiE]; rw [hv y (by simp [Op.operands])]
      simp only [h1, h2]
  case call c =>
    obtain ⟨callee, args, ts⟩ := c
    simp only [Op.operands] at hv ⊢
    have hargs : ∀ x, x ∈ args.toList → opv' x = opv x := by
      intro x hx
      refine hv x ?_
      unfold Call.operands
      have : x ∈ args := by simpa using hx
      simp
      cases callee <;> simp [this]
    split
    · rename_i x y hx
      rw [hargs x (by rw [hx]; simp), hargs y (by rw [hx]; simp)]
    · rename_i x y hx
      rw [hargs x (by rw [hx]; simp), hargs y (by rw [hx]; simp)]
    · rfl

section
variable {P : Program} {w w0 : World} {X : Ent} {a : Act} {σ : SState} {env : List D} {ρ : Rho}

theorem elem_of {t e : TypeId} (h : P.underlying t = some (.slice e)) : P.elem t = e := by
  simp [Program.elem, h]

/-- a part of a slice that reads as data -/
theorem sub_rd {S : Sets} {ad : Option Addr} {len cap n : Nat} {es : List D} {l h : Nat} (hr : RdD w S (.slice ad len cap) (.lst es)) (hz : allCells n es = true) (h1 : l ≤ h) (h2 : h ≤ es.length) (m : Nat) (hm : h ≤ m) (hmc : m ≤ cap) :
    RdD w S (sliced ad l h m n) (.lst ((es.drop l).take (h - l))) := by
  have hzz : ∀ (i : Nat) (e : D), es[i]? = some e → e.cells.length = n := fun i e he => allCells_get hz he
  cases hr with
  | nil =>
    simp at h2
    have hl0 : l = 0 := by omega
    have hm0 : m = 0 := by omega
    subst hl0 hm0 h2
    exact .nil
  | emp hm' =>
    simp at h2
    have hl0 : l = 0 := by omega
    subst hl0 h2
    unfold sliced
    simp only [Nat.sub_self, List.take_zero]
    by_cases hml : m = 0
    · simp only [hml, if_true]
      exact .emp (Nat.zero_le _)
    · simp only [if_neg hml, Option.map_some]
      exact .emp (by omega)
  | @lst b off _ _ size _ val hl hc hm' hz' ho hS hw hr =>
    unfold sliced
    have hidx : ∀ (i : Nat) (e : D), ((es.drop l).take (h - l))[i]? = some e → es[l + i]? = some e ∧ i < h - l := by
      intro i e he
      rw [List.getElem?_take] at he
      split at he
      · rename_i hi
        exact ⟨by simpa using he, hi⟩
      · cases he
    by_cases hml : m = l
    · have hhl : h = l := by omega
      subst hml hhl
      simp only [if_true, Nat.sub_self, List.take_zero]
      exact .lst (size := size) (val := val) (by simp) (Nat.le_refl _) (by simp [maxLen]) (by simp) (by simp) (by simp) (by simp) (by simp)
    · simp only [if_neg hml, Option.map_some]
      rw [addr_add]
      have hsz : ∀ (i : Nat) (e : D), es[i]? = some e → size = n := fun i e he => (hz' i e he).symm.trans (hzz i e he)
      refine .lst (size := n) (val := fun i j => val (l + i) j) (by simp; omega) (by omega) (by omega) (fun i e he => hzz _ e (hidx i e he).1) (fun i e j d he hd => ho _ e j d (hidx i e he).1 hd) (fun i e j d he hd => ?_) (fun i e j d he hd => ?_) fun i e j d he hd => hr _ e j d (hidx i e he).1 hd
      · have h5 := (hidx i e he).1
        have := hS _ e j d h5 hd
        rw [hsz _ e h5] at this
        rwa [show off + l * n + i * n + j = off + (l + i) * n + j from by rw [Nat.add_mul]; omega]
      · have h5 := (hidx i e he).1
        have := hw _ e j d h5 hd
        rw [hsz _ e h5] at this
        rwa [show off + l * n + i * n + j = off + (l + i) * n + j from by rw [Nat.add_mul]; omega]


theorem iface_run {t : TypeId} (h : isIface P t = false) (v : Value) : (Instr.makeInterface t v).run P w = .ok (.iface t v) w := by
  unfold isIface at h
  cases hu : P.underlying t with
  | none => rw [hu] at h; cases h
  | some d =>
    rw [hu] at h
    unfold Instr.makeInterface
    rw [Sem.run_bind, run_underlying hu]
    cases d <;> first | rfl | simp at h

theorem lo_rd {opv : Operand → SV} (hv : ∀ x, SRd w ρ env (a.eval x) (opv x)) {lo : Option Operand} {l : E} (h : loE opv lo = some l) {k : IntKind} {n : Int} (he : l.eval env = some (.v (.int k n))) : (lo = none ∧ n = 0) ∨ ∃ x, lo = some x ∧ a.eval x = .int k n := by
  cases lo with
  | none => simp [loE] at h; subst h; simp [E.eval] at he; exact .inl ⟨rfl, he.2.symm⟩
  | some x =>
    obtain ⟨d, hd, hr⟩ := SV.toE_rd h (hv x)
    rw [he] at hd
    cases hd
    exact .inr ⟨x, rfl, hr.v_eq⟩

theorem hi_rd {opv : Operand → SV} (hv : ∀ x, SRd w ρ env (a.eval x) (opv x)) {hi : Option Operand} {x' l : E} (h : hiE opv x' hi = some l) {dx : D} {len : Nat} (hx : x'.eval env = some dx) (hln : D.lenL dx = some (.v (.int .i64 len))) {k : IntKind} {n : Int} (he : l.eval env = some (.v (.int k n))) : (hi = none ∧ n = len) ∨ ∃ x, hi = some x ∧ a.eval x = .int k n := by
  cases hi with
  | none => simp [hiE] at h; subst h; simp [E.eval, hx, hln] at he; exact .inl ⟨rfl, he.2.symm⟩
  | some x =>
    obtain ⟨d, hd, hr⟩ := SV.toE_rd h (hv x)
    rw [he] at hd
    cases hd
    exact .inr ⟨x, rfl, hr.v_eq⟩

theorem equalIn_ifc_nil {t : TypeId} {ms : Array (String × TypeId)} (hu : P.underlying t = some (.interface ms)) (d : Nat) (t' : TypeId) (v : Value) : (Op.equalIn (d + 1) t (.iface t' v) .nilIface).run P w = .ok false w := by
  simp [Op.equalIn, run_underlying hu]

theorem equalIn_nil_nil {t : TypeId} {ms : Array (String × TypeId)} (hu : P.underlying t = some (.interface ms)) (d : Nat) : (Op.equalIn (d + 1) t .nilIface .nilIface).run P w = .ok true w := by
  simp [Op.equalIn, run_underlying hu]

theorem bin_ifc_nil {t : TypeId} {ms : Array (String × TypeId)} (hu : P.underlying t = some (.interface ms)) (t' : TypeId) (v : Value) : (binOp .eql t (.iface t' v) .nilIface).run P w = .ok (.bool false) w ∧ (binOp .neq t (.iface t' v) .nilIface).run P w = .ok (.bool true) w := by
  have h1 : (Op.equal t (.iface t' v) .nilIface).run P w = .ok false w := equalIn_ifc_nil hu 9999 t' v
  constructor <;> simp only [binOp, Sem.run_bind, h1, Result.andThen_ok, Sem.run_pure] <;> rfl

theorem bin_nil_nil {t : TypeId} {ms : Array (String × TypeId)} (hu : P.underlying t = some (.interface ms)) : (binOp .eql t .nilIface .nilIface).run P w = .ok (.bool true) w ∧ (binOp .neq t .nilIface .nilIface).run P w = .ok (.bool false) w := by
  have h1 : (Op.equal t .nilIface .nilIface).run P w = .ok true w := equalIn_nil_nil hu 9999
  constructor <;> simp only [binOp, Sem.run_bind, h1, Result.andThen_ok, Sem.run_pure] <;> rfl

theorem guard_ifc_nil {op : BinOp} {t : TypeId} {x : Operand} (t' : TypeId) (v : Value) : (eqGuard op t x (.const .nilIface) (.iface t' v) .nilIface).run P w = .ok () w := by
  unfold eqGuard
  cases op <;> simp

theorem guard_nil_nil {op : BinOp} {t : TypeId} {x : Operand} : (eqGuard op t x (.const .nilIface) .nilIface .nilIface).run P w = .ok () w := by
  unfold eqGuard
  cases op <;> simp

theorem lifnil_sound {o : Oper} {opv : Operand → SV} {op : BinOp} {neg : Bool} {t yt : TypeId} {x y : Operand} {ix : Nat} {r : LRes} (ho : o.op = .binOp op t x y yt) (hop : op = .eql ∧ neg = false ∨ op = .neq ∧ neg = true) (hv : ∀ x, SRd w ρ env (a.eval x) (opv x)) (hl : lifnil P t (opv x) y neg ix = some r) (h : Rep w0 X w a σ env ρ) (hd : ∀ d, o.dst = some d → d < σ.tmps.length) (hb : BindOk P env ix r.bind) :
    r.upd = none ∧ OpOk P o a w w0 X (σ.put o.dst r.val) env := by
  unfold lifnil at hl
  split at hl
  · rename_i ms hu
    split at hl
    · rename_i hy
      obtain ⟨x', hx', rfl⟩ := Option.map_eq_some_iff.1 hl
      obtain ⟨dx, hdx, hrx⟩ := SV.toE_rd hx' (hv x)
      obtain ⟨dz, hev, hix⟩ := hb
      simp only [E.eval, hdx, Option.bind_some, D.m4] at hev
      have hye : y = .const .nilIface := by
        unfold isNilIf at hy
        split at hy
        · rfl
        · simp at hy
      subst hye
      have fin : ∀ b : Bool, dz = .bool b → (do eqGuard op t x (.const .nilIface) (a.eval x) (a.eval (.const .nilIface)); binOp op t (a.eval x) (a.eval (.const .nilIface)) : Sem Value).run P w = .ok (.bool b) w → OpOk P o a w w0 X (σ.put o.dst (.e (.sym ix) true)) env := by
        rintro b rfl hrun
        refine opOk_same h hd (v := .bool b) ?_ (.e (d := .bool b) (by simp only [E.eval]; exact hix) (.v rfl) fun _ => rfl)
        unfold execOp
        simp only [ho]
        rw [Sem.run_bind, hrun]
        rfl
      refine ⟨rfl, ?_⟩
      generalize hxv : a.eval x = xv at hrx fin
      have hc : a.eval (.const .nilIface) = .nilIface := rfl
      rw [hc] at fin
      split at hev
      · cases hev
        cases hrx
        refine fin neg rfl ?_
        rw [Sem.run_bind, guard_ifc_nil, Result.andThen_ok]
        rcases hop with ⟨rfl, rfl⟩ | ⟨rfl, rfl⟩
        · exact (bin_ifc_nil hu _ _).1
        · exact (bin_ifc_nil hu _ _).2
      · cases hev
        rw [hrx.v_eq] at fin
        refine fin (!neg) rfl ?_
        rw [Sem.run_bind, guard_nil_nil, Result.andThen_ok]
        rcases hop with ⟨rfl, rfl⟩ | ⟨rfl, rfl⟩
        · exact (bin_nil_nil hu).1
        · exact (bin_nil_nil hu).2
      · cases hev
    · cases hl
  · cases hl

theorem ltassert_sound {o : Oper} {opv : Operand → SV} {xt t : TypeId} {x : Operand} {ix : Nat} {r : LRes} (ho : o.op = .typeAssert x xt t true) (hv : ∀ x, SRd w ρ env (a.eval x) (opv x)) (hl : ltassert P t (opv x) ix = some r) (h : Rep w0 X w a σ env ρ) (hd : ∀ d, o.dst = some d → d < σ.tmps.length) (hb : BindOk P env ix r.bind) :
    r.upd = none ∧ OpOk P o a w w0 X (σ.put o.dst r.val) env := by
  unfold ltassert at hl
  split at hl
  · cases hl
  rename_i hif
  split at hl
  · rename_i x' z hx' hz
    cases hl
    obtain ⟨zv, hzv, hz⟩ := Option.bind_eq_some_iff.1 hz
    obtain ⟨dx, hdx, hrx⟩ := SV.toE_rd hx' (hv x)
    obtain ⟨dz, hev, hix⟩ := hb
    simp only [E.eval, hdx, Option.bind_some, D.m4] at hev
    have fin : ∀ (b : Bool) (d : D) (v : Value), dz = .tup [d, .bool b] → RdD w ρ.S v d → (Instr.typeAssert (a.eval x) xt t true).run P w = .ok (.tuple #[v, .bool b]) w → OpOk P o a w w0 X (σ.put o.dst (.tup [.e (.tget 0 (.sym ix)) false, .e (.tget 1 (.sym ix)) true])) env := by
      rintro b d v rfl hrd hrun
      refine opOk_same h hd (v := .tuple #[v, .bool b]) ?_ (.tup rfl fun i u c hu hc => ?_)
      · unfold execOp
        simp only [ho, Sem.run_bind, hrun, Result.andThen_ok, Sem.run_pure]
      · match i with
        | 0 =>
          simp at hu hc
          subst hu hc
          exact .e (d := d) (by simp [E.eval, hix, D.tget]) hrd (by simp)
        | 1 =>
          simp at hu hc
          subst hu hc
          exact .e (d := .bool b) (by simp [E.eval, hix, D.tget]) (.v rfl) fun _ => rfl
        | i + 2 => simp at hc
    refine ⟨rfl, ?_⟩
    have hnot : ∃ k, P.underlying t = some k ∧ ∀ ms, k ≠ .interface ms := by
      unfold isIface at hif
      cases hu : P.underlying t with
      | none => rw [hu] at hif; simp at hif
      | some k =>
        rw [hu] at hif
        refine ⟨k, rfl, ?_⟩
        rintro ms rfl
        simp at hif
    obtain ⟨k, hu, hk⟩ := hnot
    generalize hxv : a.eval x = xv at hrx fin
    split at hev
    · rename_i t' d
      cases hev
      cases hrx with
      | ifc hrd =>
      by_cases ht : t' = t
      · refine fin true d _ (by rw [if_pos ht]) hrd ?_
        unfold Instr.typeAssert
        simp only [Sem.run_bind, run_underlying hu, Result.andThen_ok]
        cases k <;> first | exact absurd rfl (hk _) | simp [ht]
      · refine fin false z zv (by rw [if_neg ht]) (D.ofVal_rd hz) ?_
        unfold Instr.typeAssert
        simp only [Sem.run_bind, run_underlying hu, Result.andThen_ok]
        cases k <;> first | exact absurd rfl (hk _) | simp [ht, run_zeroValue hzv]
    · cases hev
      rw [hrx.v_eq] at fin
      refine fin false z zv rfl (D.ofVal_rd hz) ?_
      unfold Instr.typeAssert
      simp only [Sem.run_bind, run_underlying hu, Result.andThen_ok]
      cases k <;> first | exact absurd rfl (hk _) | simp [run_zeroValue hzv]
    · cases hev
  · cases hl

theorem lpure_sound {o : Oper} {opv : Operand → SV} {ix : Nat} {r : LRes} (hv : ∀ x, SRd w ρ env (a.eval x) (opv x)) (hl : lpure P o opv ix = some r) (h : Rep w0 X w a σ env ρ) (hd : ∀ d, o.dst = some d → d < σ.tmps.length) (hb : BindOk P env ix r.bind) :
    r.upd = none ∧ OpOk P o a w w0 X (σ.put o.dst r.val) env := by
  unfold lpure at hl
  split at hl
  · rename_i t x y yt ho
    exact lifnil_sound ho (.inl ⟨rfl, rfl⟩) hv hl h hd hb
  · rename_i t x y yt ho
    exact lifnil_sound ho (.inr ⟨rfl, rfl⟩) hv hl h hd hb
  · rename_i x xt t ho
    exact ltassert_sound ho hv hl h hd hb
  · rename_i t x ho
    split at hl
    · cases hl
    · rename_i hif
      obtain ⟨x', hx', rfl⟩ := Option.map_eq_some_iff.1 hl
      obtain ⟨d, hdx, hrx⟩ := SV.toE_rd hx' (hv x)
      refine ⟨rfl, opOk_same h hd (v := .iface t (a.eval x)) ?_ (.e (d := .ifc t d) (by simp [E.eval, hdx]) (.ifc hrx) fun _ => rfl)⟩
      unfold execOp
      simp only [ho, Sem.run_bind, iface_run (by simpa using hif), Result.andThen_ok, Sem.run_pure]
  · rename_i t x lo hi ho
    obtain ⟨x', hx', hl⟩ := Option.bind_eq_some_iff.1 hl
    unfold lslice at hl
    split at hl
    · rename_i e x'' l hh hu hx'' hlo hhi
      rw [hx'] at hx''
      cases hx''
      obtain ⟨n, hn, rfl⟩ := Option.map_eq_some_iff.1 hl
      obtain ⟨dx, hdx, hrx⟩ := SV.toE_rd hx' (hv x)
      obtain ⟨dz, hev, hix⟩ := hb
      simp only [E.eval, hdx, Option.bind_some, Option.bind_eq_some_iff] at hev
      obtain ⟨dl, hdl, dh, hdh, hev⟩ := hev
      have hel := elem_of hu
      have hu' : P.underlying t = some (.slice (P.elem t)) := by rw [hel]; exact hu
      have hsize : (sizeOf (P.elem t)).run P w = .ok n w := by rw [hel]; exact run_sizeOf hn w
      -- whatever it is a part of
      have go : ∀ (ad : Option Addr) (len cap : Nat) (k1 k2 : IntKind) (lv hvv : Int), a.eval x = .slice ad len cap → len ≤ cap → D.lenL dx = some (.v (.int .i64 len)) → dl = .v (.int k1 lv) → dh = .v (.int k2 hvv) → 0 ≤ lv → lv ≤ hvv → hvv ≤ (len : Int) → RdD w ρ.S (sliced ad lv.toNat hvv.toNat cap n) dz → dz.one = true →
          OpOk P o a w w0 X (σ.put o.dst (.e (.sym ix) true)) env := by
        rintro ad len cap k1 k2 lv hvv hxv hcap hln rfl rfl h0 h1 h2 hrd hone
        have fin : (Instr.slice t (.slice ad len cap) (lo.map a.eval) (hi.map a.eval) none).run P w = .ok (sliced ad lv.toNat hvv.toNat cap n) w → OpOk P o a w w0 X (σ.put o.dst (.e (.sym ix) true)) env := by
          intro hrun
          refine opOk_same h hd (v := sliced ad lv.toNat hvv.toNat cap n) ?_ (.e (d := dz) (by simp only [E.eval]; exact hix) hrd fun _ => hone)
          unfold execOp
          simp only [ho, Option.map_none, hxv, Sem.run_bind, run_sliceAt_slice w t _ _ _ _ hu', hrun, Result.andThen_ok, Sem.run_pure]
        rcases lo_rd hv hlo hdl with ⟨rfl, rfl⟩ | ⟨xl, rfl, hxl⟩ <;> rcases hi_rd hv hhi hdx hln hdh with ⟨rfl, rfl⟩ | ⟨xh, rfl, hxh⟩
        · refine fin ?_
          simp only [Option.map_none, run_slice_all w t ad len cap hu', hsize, Result.andThen_ok]
          simp
        · refine fin ?_
          simp only [Option.map_none, Option.map_some, hxh, run_slice_h w t ad len cap hu' k2 hvv (by omega) (by omega), hsize, Result.andThen_ok]
          simp
        · refine fin ?_
          simp only [Option.map_none, Option.map_some, hxl, run_slice_l w t ad len cap hu' k1 lv h0 (by omega), hsize, Result.andThen_ok]
          simp
        · refine fin ?_
          simp only [Option.map_some, hxl, hxh, run_slice_lh w t ad len cap hu' k1 k2 lv hvv h0 h1 (by omega), hsize, Result.andThen_ok]
      unfold D.sub at hev
      split at hev
      · rename_i es k1 lv k2 hvv
        split at hev
        · rename_i hc
          obtain ⟨h0, h1, h2, hz⟩ := hc
          cases hev
          refine ⟨rfl, ?_⟩
          obtain ⟨ad, len, cap, hxv, hlen⟩ := hrx.lst_form
          have hcap : len ≤ cap := by
            rw [hxv] at hrx
            cases hrx with
            | nil => exact Nat.le_refl _
            | emp _ => exact Nat.zero_le _
            | lst hl hc hm => exact hc
          rw [hxv] at hrx
          refine go ad len cap k1 k2 lv hvv hxv hcap (by simp [D.lenL, hlen]) rfl rfl h0 h1 (by omega) ?_ rfl
          have := sub_rd (l := lv.toNat) (h := hvv.toNat) hrx hz (by omega) (by omega) cap (by omega) (Nat.le_refl _)
          rwa [show (hvv - lv).toNat = hvv.toNat - lv.toNat from by omega]
        · cases hev
      · rename_i j off ln k1 lv k2 hvv
        split at hev
        · rename_i hc
          obtain ⟨h0, h1, h2, hn0, hlh⟩ := hc
          cases hev
          refine ⟨rfl, ?_⟩
          generalize hxv : a.eval x = xv at hrx
          cases hrx with
          | @sl _ _ _ cap hj hle hcm h00 =>
          refine go _ ln cap k1 k2 lv hvv hxv hle rfl rfl rfl h0 h1 h2 ?_ rfl
          unfold sliced
          have hlt : lv.toNat = 0 ∨ cap ≠ lv.toNat := by omega
          by_cases hml : cap = lv.toNat
          · have hz : lv.toNat = 0 := by omega
            simp only [hml, if_true]
            have hh : hvv.toNat = 0 := by omega
            rw [show (hvv - lv).toNat = 0 from by omega, hz, hh]
            simp only [Nat.zero_mul, Nat.add_zero, Nat.sub_self]
            exact .sl hj (Nat.le_refl _) (by omega) fun e => by rw [← h00 e]; omega
          · simp only [if_neg hml, Option.map_some]
            rw [addr_add, show (hvv - lv).toNat = hvv.toNat - lv.toNat from by omega]
            refine .sl hj (by omega) (by omega) fun e => ?_
            have : lv.toNat * n = 0 := by omega
            have hl0 : lv.toNat = 0 := by
              rcases Nat.mul_eq_zero.1 this with h | h
              · exact h
              · omega
            rw [← h00 (by omega)]
            omega
        · cases hev
      · cases hev
    · cases hl
  · rename_i c ho
    obtain ⟨callee, args, ts⟩ := c
    simp only at hl
    split at hl
    · rename_i x y hargs
      split at hl
      · rename_i x' y' hx' hy'
        cases hl
        obtain ⟨dx, hdx, hrx⟩ := SV.toE_rd hx' (hv x)
        obtain ⟨dy, hdy, hry⟩ := SV.toE_rd hy' (hv y)
        obtain ⟨dz, hev, hix⟩ := hb
        simp only [E.eval, hdx, hdy, Option.bind_some] at hev
        unfold D.mm at hev
        split at hev
        · rename_i k p k' q
          split at hev
          · rename_i hk
            subst hk
            cases hev
            have e1 : args = #[x, y] := by rw [← Array.toArray_toList (xs := args), hargs]
            subst e1
            refine ⟨rfl, opOk_same h hd (v := .int k (if q > p then q else p)) ?_ (.e (by simp only [E.eval]; exact hix) (.v rfl) fun _ => rfl)⟩
            unfold execOp
            simp only [ho, resolve, invoke, builtin, Sem.run_bind, Sem.run_pure, Result.andThen_ok, List.map_toArray, List.map_cons, List.map_nil, hrx.v_eq, hry.v_eq, run_max_int2]
          · cases hev
        · cases hev
      · cases hl
    · rename_i x y hargs
      split at hl
      · rename_i x' y' hx' hy'
        cases hl
        obtain ⟨dx, hdx, hrx⟩ := SV.toE_rd hx' (hv x)
        obtain ⟨dy, hdy, hry⟩ := SV.toE_rd hy' (hv y)
        obtain ⟨dz, hev, hix⟩ := hb
        simp only [E.eval, hdx, hdy, Option.bind_some] at hev
        unfold D.mm at hev
        split at hev
        · rename_i k p k' q
          split at hev
          · rename_i hk
            subst hk
            cases hev
            have e1 : args = #[x, y] := by rw [← Array.toArray_toList (xs := args), hargs]
            subst e1
            refine ⟨rfl, opOk_same h hd (v := .int k (if q < p then q else p)) ?_ (.e (by simp only [E.eval]; exact hix) (.v rfl) fun _ => rfl)⟩
            unfold execOp
            simp only [ho, resolve, invoke, builtin, Sem.run_bind, Sem.run_pure, Result.andThen_ok, List.map_toArray, List.map_cons, List.map_nil, hrx.v_eq, hry.v_eq, run_min_int2]
          · cases hev
        · cases hev
      · cases hl
    · cases hl
  · cases hl

end
end Go.Am
