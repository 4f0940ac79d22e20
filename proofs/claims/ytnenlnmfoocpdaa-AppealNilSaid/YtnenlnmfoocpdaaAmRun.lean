/-
  The operations of a region one after the other, guards and all.
-/
import Derived.Test.YtnenlnmfoocpdaaAmNew
set_option linter.unusedSimpArgs false
set_option linter.unusedVariables false
namespace Go.Am

/-! ## evaluation ahead of use (for the kernel: the functions change nothing) -/

def forceL {α β : Type} : List α → (List α → β) → β
  | [], k => k []
  | x :: r, k => forceL r fun r' => k (x :: r')

theorem forceL_eq {α β : Type} : ∀ (l : List α) (k : List α → β), forceL l k = k l
  | [], _ => rfl
  | x :: r, k => by simp only [forceL]; rw [forceL_eq r]

def forceO {α β : Type} (f : α → (α → β) → β) : Option α → (Option α → β) → β
  | none, k => k none
  | some x, k => f x fun x => k (some x)

def forceSV {β : Type} (x : SV) (k : SV → β) : β :=
  match x with
  | .junk => k .junk
  | .e x s => k (.e x s)
  | .agg cs => k (.agg cs)
  | .tup vs => k (.tup vs)
  | .addr o off => k (.addr o off)
  | .eaddr o i s off => k (.eaddr o i s off)
  | .iptr x off => k (.iptr x off)
  | .own x n => k (.own x n)
  | .slc o => k (.slc o)
  | .func fn cap => k (.func fn cap)
  | .cond act sv => k (.cond act sv)

theorem forceSV_eq {β : Type} (x : SV) (k : SV → β) : forceSV x k = k x := by cases x <;> rfl

/-- the elements, too -/
def forceE {α β : Type} (f : α → (α → β) → β) : List α → (List α → β) → β
  | [], k => k []
  | x :: r, k => f x fun x' => forceE f r fun r' => k (x' :: r')

theorem forceE_eq {α β : Type} {f : α → (α → β) → β} (hf : ∀ x k, f x k = k x) : ∀ (l : List α) (k : List α → β), forceE f l k = k l
  | [], _ => rfl
  | x :: r, k => by simp only [forceE]; rw [hf, forceE_eq hf r]

def forceObj {β : Type} (x : Option SObj) (k : Option SObj → β) : β :=
  match x with
  | none => k none
  | some (.box cs) => k (some (.box cs))
  | some (.row x n) => k (some (.row x n))
  | some (.tok e n) => k (some (.tok e n))
  | some (.store cf h) => k (some (.store cf h))

theorem forceObj_eq {β : Type} (x : Option SObj) (k : Option SObj → β) : forceObj x k = k x := by
  cases x with
  | none => rfl
  | some y => cases y <;> rfl

def forceS {β : Type} (σ : SState) (k : SState → β) : β := forceE forceSV σ.tmps fun ts => forceE forceObj σ.mem fun ms => forceObj σ.hs fun hs => k { tmps := ts, mem := ms, hs := hs }

theorem forceS_eq {β : Type} (σ : SState) (k : SState → β) : forceS σ k = k σ := by
  unfold forceS
  rw [forceE_eq forceSV_eq, forceE_eq forceObj_eq, forceObj_eq]

/-- under conditions, an expression gets a name -/
def atomV (act : List (E × Bool)) (ix : Nat) (e : Eff) : SV × Option Bind :=
  match act, e.bind, e.val with
  | _ :: _, none, .e x s => if isAtom ix x then (e.val, none) else (.e (.sym ix) s, some (.ev x))
  | _, b, v => (v, b)

def isCallV (o : Oper) : Bool := match o.op with | .call c => (match c.callee with | .value _ => true | _ => false) | _ => false

/-- a call that writes the store -/
def callWrites (o : Oper) (hO : Option SObj) (ix : Nat) (e : Eff) : Bool :=
  isCallV o && e.del.isNone && match hO, e.upd with
    | some (.store cf h), some (k, .store cf' (.tget 1 (.sym j))) => !cf.ro && decide (k = HID) && decide (cf = cf') && decide (j = ix) && (match e.bind with
      | some (.wcall [] _ h' _ _) => h'.same h
      | some (.wcallv [] _ h' _ _) => h'.same h
      | _ => false)
    | _, _ => false

/-- what an operation does, but for the question whether a new name is free -/
def reff (P : Program) (ops : Array Oper) (o : Oper) (σ : SState) (ix : Nat) : Option Eff :=
  match actOf ops σ ix o.guard with
  | none => none
  | some act => match estep P o σ.opv act σ.obj ix with
    | none => none
    | some e => if e.upd.isNone && e.del.isNone then some ⟨wrapSV act (atomV act ix e).1, none, none, guardBind act (atomV act ix e).2⟩ else match act with
      | [] => if selfOk o σ e then some e else none
      | act => if callWrites o (σ.obj HID) ix e then some ⟨.cond act e.val, e.upd, none, guardBind act e.bind⟩ else none

def freshAt (σ : SState) (ob : Nat) : Prop := (σ.obj ob).isNone = true ∧ σ.avoidsB ob = true

def freshFor (σ : SState) (o : Oper) (e : Eff) : Bool := !isNew o || match e.upd with | some u => decide (u.1 = HID) || ((σ.obj u.1).isNone && σ.avoidsB u.1) | none => true

def rstep (P : Program) (ops : Array Oper) (o : Oper) (σ : SState) (ix : Nat) : Option (SState × Option Bind) :=
  match reff P ops o σ ix with
  | some e => if dstOk σ o && freshFor σ o e then some (σ.app o.dst e, e.bind) else none
  | none => none

theorem rstep_of_reff {P : Program} {ops : Array Oper} {o : Oper} {σ : SState} {ix : Nat} {e : Eff} (h : reff P ops o σ ix = some e) (hd : dstOk σ o = true) (hf : isNew o = true → ∀ u, e.upd = some u → u.1 = HID ∨ freshAt σ u.1) :
    rstep P ops o σ ix = some (σ.app o.dst e, e.bind) := by
  have : freshFor σ o e = true := by
    unfold freshFor
    cases hn : isNew o with
    | false => rfl
    | true =>
      cases hu : e.upd with
      | none => rfl
      | some u =>
        rcases hf hn u hu with h1 | h1
        · simp [h1]
        · simp [h1.1, h1.2]
  unfold rstep
  rw [h]
  simp [hd, this]

section
variable {P : Program} {w w0 : World} {X : Ent} {a : Act} {σ : SState} {env : List D} {ρ : Rho}

theorem atomV_ok {act : List (E × Bool)} {ix : Nat} {e : Eff} (h : BindOk P env ix (atomV act ix e).2) : BindOk P env ix e.bind ∧ ∀ (w : World) (ρ : Rho) (v : Value), SRd w ρ env v e.val → SRd w ρ env v (atomV act ix e).1 := by
  unfold atomV at h ⊢
  split at h
  · rename_i hb hv
    split at h
    · rename_i hat
      rw [if_pos hat]
      exact ⟨by rw [hb]; trivial, fun _ _ _ h => h⟩
    · rename_i hat
      rw [if_neg hat]
      refine ⟨by rw [hb]; trivial, fun w ρ v hs => ?_⟩
      rw [hv] at hs
      obtain ⟨d, hx, hix⟩ := h
      obtain ⟨d', hx', hr, h1⟩ := hs.e_inv
      rw [hx] at hx'
      cases hx'
      exact .e (by simp only [E.eval]; exact hix) hr h1
  · exact ⟨h, fun _ _ _ h => h⟩

/-- One operation of a region. -/
theorem rstep_sound {ops : Array Oper} {o : Oper} {ix : Nat} {σ' : SState} {b : Option Bind} (h : Rep w0 X w a σ env ρ) (hm : σ.mem.length = σ.tmps.length) (hix : ix ≤ env.length) (hsz : ∀ (j d : Nat), (ops[j]?).bind (fun (o : Oper) => o.dst) = some d → d < σ.tmps.length)
    (hs : rstep P ops o σ ix = some (σ', b)) (hb : BindOk P env ix b) : (Region.wanted o (yielded ops a.tmps) = true ∧ OpOk P o a w w0 X σ' env) ∨ (Region.wanted o (yielded ops a.tmps) = false ∧ Rep w0 X w (a.put o.dst undef) σ' env ρ) := by
  unfold rstep at hs
  split at hs
  · rename_i e he
    split at hs
    · rename_i hc
      simp only [Bool.and_eq_true] at hc
      cases hs
      have hd := dstOk_spec hc.1
      unfold reff at he
      split at he
      · cases he
      · rename_i act hact
        obtain ⟨hdef, hwant⟩ := wanted_iff h hix hsz hact
        split at he
        · cases he
        · rename_i e0 hl
          split at he
          · rename_i hn
            simp only [Bool.and_eq_true, Option.isNone_iff_eq_none] at hn
            cases he
            have happ : ∀ sv, σ.app o.dst ⟨sv, none, none, guardBind act (atomV act ix e0).2⟩ = σ.put o.dst sv := fun _ => rfl
            rw [happ]
            by_cases ha : actHolds env act
            · refine .inl ⟨hwant.2 ha, ?_⟩
              obtain ⟨hbb, hatom⟩ := atomV_ok (guardBind_ok ha hb)
              have hok := estep_sound h ha hl hd hm hbb (by simp [freshFor', hn.1]) (fun _ => by simp [hn.1, hn.2])
              have happ0 : σ.app o.dst e0 = σ.put o.dst e0.val := by simp [SState.app, SState.dels, SState.sets, hn.1, hn.2]
              rw [happ0] at hok
              intro Q
              refine upon_mono (hok Q) ?_
              rintro a' w' ⟨ρ', hrep⟩
              refine ⟨ρ', ?_⟩
              cases hdo : o.dst with
              | none => rw [hdo] at hrep; exact hrep
              | some d =>
                rw [hdo] at hrep
                have hdl := hd d hdo
                refine ⟨by simpa [SState.put] using hrep.size, fun t => ?_, hrep.objs, hrep.inj, hrep.own, hrep.cells, hrep.os, hrep.tape, hrep.output, hrep.grown, hrep.old, hrep.sub, hrep.new, hrep.nod, hrep.hold⟩
                have := hrep.tmps t
                rw [SState.tmp_put hdl] at this ⊢
                split
                · rename_i e; rw [if_pos e] at this; exact wrap_rd hdef ha (hatom _ _ _ this)
                · rename_i e; rw [if_neg e] at this; exact this
            · refine .inr ⟨by rw [← Bool.not_eq_true, hwant]; exact ha, h.put hd ?_⟩
              cases act with
              | nil => exact absurd actHolds_nil ha
              | cons p r => exact .cond hdef (fun hh => absurd hh ha) fun _ => rfl
          · split at he
            · split at he
              · rename_i hself
                cases he
                have ha : actHolds env [] := actHolds_nil
                refine .inl ⟨hwant.2 ha, estep_sound h ha hl hd hm hb ?_ fun _ _ => rfl⟩
                intro hnew u hu hne
                have hf := hc.2
                simp only [freshFor, hnew, hu, Bool.not_true, Bool.false_or, Bool.or_eq_true, decide_eq_true_eq, Bool.and_eq_true, Option.isNone_iff_eq_none] at hf
                have hf := hf.resolve_left hne
                exact ⟨hf.1, avoidsB_spec hf.2, selfOk_spec hself hnew hu hne⟩
              · cases he
            · rename_i hne
              split at he
              · rename_i hcw
                cases he
                unfold callWrites at hcw
                simp only [Bool.and_eq_true] at hcw
                obtain ⟨⟨hcv, hdel⟩, hcw⟩ := hcw
                split at hcw
                · rename_i cf hE k cf' j hob hup
                  simp only [Bool.and_eq_true, Bool.not_eq_true', decide_eq_true_eq] at hcw
                  obtain ⟨⟨⟨⟨hro, rfl⟩, rfl⟩, rfl⟩, hbm⟩ := hcw
                  have hdel : e0.del = none := by simpa using hdel
                  have happ : ∀ sv b, σ.app o.dst ⟨sv, e0.upd, none, b⟩ = (σ.setObj HID (some (.store cf (.tget 1 (.sym j))))).put o.dst sv := fun sv b => by simp [SState.app, SState.dels, SState.sets, hup]
                  rw [happ]
                  have hnew : isNew o = false := by
                    unfold isCallV at hcv
                    unfold isNew
                    split at hcv
                    · rename_i c hop
                      rw [hop]
                      split at hcv
                      · rename_i g hc
                        simp [hc]
                      · cases hcv
                    · cases hcv
                  by_cases ha : actHolds env act
                  · refine .inl ⟨hwant.2 ha, ?_⟩
                    have hok := estep_sound h ha hl hd hm (guardBind_ok ha hb) (by simp [freshFor', hnew]) (fun hn => by rw [hnew] at hn; cases hn)
                    have happ0 : σ.app o.dst e0 = (σ.setObj HID (some (.store cf (.tget 1 (.sym j))))).put o.dst e0.val := by rw [← happ e0.val e0.bind, ← hdel]
                    rw [happ0] at hok
                    intro Q
                    refine upon_mono (hok Q) ?_
                    rintro a' w' ⟨ρ', hrep⟩
                    refine ⟨ρ', ?_⟩
                    cases hdo : o.dst with
                    | none => rw [hdo] at hrep; exact hrep
                    | some d =>
                      rw [hdo] at hrep
                      have hdl : d < (σ.setObj HID (some (.store cf (.tget 1 (.sym j))))).tmps.length := by rw [SState.tmps_setObj]; exact hd d hdo
                      refine ⟨by simpa [SState.put] using hrep.size, fun t => ?_, hrep.objs, hrep.inj, hrep.own, hrep.cells, hrep.os, hrep.tape, hrep.output, hrep.grown, hrep.old, hrep.sub, hrep.new, hrep.nod, hrep.hold⟩
                      have := hrep.tmps t
                      rw [SState.tmp_put hdl] at this ⊢
                      split
                      · rename_i e; rw [if_pos e] at this; exact .cond hdef (fun _ => this) fun hn => absurd ha hn
                      · rename_i e; rw [if_neg e] at this; exact this
                  · refine .inr ⟨by rw [← Bool.not_eq_true, hwant]; exact ha, ?_⟩
                    obtain ⟨bs, hbe, hst, _⟩ := h.objs _ _ hob
                    have hna : ¬ actHolds env (act ++ []) := by rw [List.append_nil]; exact ha
                    have hix : (E.tget 1 (.sym j)).eval env = some (.st bs) := by
                      split at hbm
                      · rename_i g h' args rs hbe'
                        rw [hbe'] at hb
                        obtain ⟨st, d, h2, g0, g1, _, g3⟩ := hb
                        have := E.same_eq hbm
                        subst this
                        rw [hbe] at g0
                        cases g0
                        simp only [E.eval, g1, Option.bind_some, D.tget, g3 hna]
                        rfl
                      · rename_i x h' args rs hbe'
                        rw [hbe'] at hb
                        obtain ⟨st, d, h2, g0, g1, _, g3⟩ := hb
                        have := E.same_eq hbm
                        subst this
                        rw [hbe] at g0
                        cases g0
                        simp only [E.eval, g1, Option.bind_some, D.tget, g3 hna]
                        rfl
                      · cases hbm
                    have hrep := h.setStore (x' := .tget 1 (.sym j)) hob hro hix hst (Keeps.refl _ _) (Sets.le_refl _) rfl rfl rfl (Nat.le_refl _) (fun _ _ _ => rfl) (fun b hb => ⟨.inl hb, foot_lt h hob b hb⟩) (fun b o hs => .inl hs) h.cells
                    exact hrep.put (by rw [SState.tmps_setObj]; exact hd) (.cond hdef (fun hh => absurd hh ha) fun _ => rfl)
                · cases hcw
              · cases he
    · cases hs
  · cases hs

theorem rstep_defer {ops : Array Oper} {o : Oper} {ix : Nat} {x : SState × Option Bind} (hs : rstep P ops o σ ix = some x) : noDefer o = true := by
  unfold rstep at hs
  split at hs
  · split at hs
    · rename_i hc
      simp only [Bool.and_eq_true] at hc
      exact dstOk_defer hc.1
    · cases hs
  · cases hs

theorem app_len (σ : SState) (dst : Option Tmp) (e : Eff) : (σ.app dst e).tmps.length = σ.tmps.length ∧ (σ.app dst e).mem.length = σ.mem.length := by
  unfold SState.app SState.dels SState.sets
  cases e.del <;> cases e.upd <;> cases dst <;> simp [SState.put, SState.tmps_setObj, SState.mlen_setObj]

theorem rstep_len {ops : Array Oper} {o : Oper} {ix : Nat} {σ' : SState} {b : Option Bind} (hs : rstep P ops o σ ix = some (σ', b)) : σ'.tmps.length = σ.tmps.length ∧ σ'.mem.length = σ.mem.length := by
  unfold rstep at hs
  split at hs
  · split at hs
    · cases hs; exact app_len _ _ _
    · cases hs
  · cases hs

def BindsOk (P : Program) (env : List D) (ix : Nat) (bs : List Bind) : Prop := ∀ i b, bs[i]? = some b → BindOk P env (ix + i) (some b)

end
end Go.Am
