/-
  Operations after which the text of the small language branches: a panic, a call that may panic, the question whether a slice is nil.
-/
import Derived.Test.YtnenlnmfoocpdaaAmIR
import Derived.Test.YtnenlnmfoocpdaaAmDraw4
import Derived.Lib.SliceRun
import Derived.WalkSpells
set_option linter.unusedSimpArgs false
set_option linter.unusedVariables false
namespace Go.Am

inductive Sop where
  | pan (x : E)
  | nilq (x : E) (neg : Bool)
  | call (f : FuncId) (args : List E) (rs : List Bool)
  | wcall (f : FuncId) (args : List E) (rs : List Bool)
  | wcallv (x : E) (args : List E) (rs : List Bool)
  deriving Inhabited

def isNilS : Operand → Bool
  | .const (.slice none 0 0) => true
  | _ => false

/-- a special operation -/
def sopOf (P : Program) (o : Oper) (σ : SState) : Option Sop :=
  match o.guard with
  | some _ => none
  | none => match o.op with
    | .panic x => (match (σ.opd x).toE, σ.hs with
      | some y, some (.store _ _) => some (.pan (.m4 .isifc y .nil .nil .nil))
      | _, _ => none)
    | .binOp .eql t x y _ => (match P.underlying t with
      | some (.slice _) => if isNilS y then (σ.opd x).toE.map (.nilq · false) else none
      | _ => none)
    | .binOp .neq t x y _ => (match P.underlying t with
      | some (.slice _) => if isNilS y then (σ.opd x).toE.map (.nilq · true) else none
      | _ => none)
    | .call c => (match c.callee with
      | .value f => match σ.opd f, σ.hs with
        | .func (.func f) [], some (.store cf _) => if cf.pan.contains f then (match P.funcs[f]?, toEAll (c.args.toList.map σ.opd) with
            | some fn, some xs => (match scalars P fn.resultTypes.toList with
              | some rs => if callable P f = false then none else if cf.wr.contains f then (if cf.ro then none else some (.wcall f xs rs)) else some (.call f xs rs)
              | none => none)
            | _, _ => none) else none
        | .e x _, some (.store cf _) => if cf.pan.contains (1000000 + o.dst.getD 999999) then (match rsOfType P o.type, toEAll (c.args.toList.map σ.opd) with
            | some rs, some xs => if cf.ro then none else some (.wcallv x xs rs)
            | _, _ => none) else none
        | _, _ => none
      | _ => none)
    | _ => none

abbrev SKont := SState → Nat → Option T

/-- the store's expression -/
def hsOf (σ : SState) : E := match σ.hs with | some (.store _ h) => h | _ => .const (.st [])

def setH (σ : SState) (x : E) : SState := match σ.hs with | some (.store cf _) => σ.setObj HID (some (.store cf x)) | _ => σ

/-- the slots whose values a panic tells, and these -/
def keepOf (σ : SState) : List Nat := match σ.hs with | some (.store cf _) => cf.keep | _ => []

def keepE (σ : SState) : Option (List E) := toEAll ((keepOf σ).map σ.tmp)

def KeepRd (w : World) (S : Sets) (a : Act) (slots : List Nat) (kd : List D) : Prop :=
  kd.length = slots.length ∧ ∀ (i s : Nat) (d : D), slots[i]? = some s → kd[i]? = some d → RdD w S (a.tmps.getD s undef) d

/-- what comes of a special operation; 'rest' is the text behind it -/
def sopT (s : Sop) (o : Oper) (σ : SState) (u : Nat) (rest : SState → Nat → Option T) : Option T :=
  match s with
  | .pan x => (keepE σ).map (.pan x (hsOf σ) (keepOf σ))
  | .nilq x neg => (rest (σ.put o.dst (.e (.sym u) true)) (u + 1)).map (.nilq x neg)
  | .call f xs rs => (keepE σ).bind fun ks => (rest (σ.put o.dst (resSV (.sym u) rs)) (u + 1)).map (.pcall f (hsOf σ) xs rs (keepOf σ) ks)
  | .wcall f xs rs => (keepE σ).bind fun ks => (rest ((setH σ (.tget 1 (.sym u))).put o.dst (resSV (.tget 0 (.sym u)) rs)) (u + 1)).map (.wpcall f (hsOf σ) xs rs (keepOf σ) ks)
  | .wcallv x xs rs => (keepE σ).bind fun ks => (rest ((setH σ (.tget 1 (.sym u))).put o.dst (resSV (.tget 0 (.sym u)) rs)) (u + 1)).map (.wpcallv x (hsOf σ) xs rs (keepOf σ) ks)

/-- the operations of a region, one after the other -/
def segs (P : Program) (ops : Array Oper) : List Oper → SState → Nat → SKont → Option T
  | [], σ, u, k => k σ u
  | o :: r, σ, u, k => match sopOf P o σ with
    | some s => if dstOk σ o then sopT s o σ u fun σ u => segs P ops r σ u k else none
    | none => match rstep P ops o σ u with
      | some (σ', none) => segs P ops r σ' u k
      | some (σ', some b) => (segs P ops r σ' (u + 1) k).map (.bind b)
      | none => none

/-- ... only the state in the end -/
def segsC (P : Program) (ops : Array Oper) : List Oper → SState → Nat → Option (Option (Nat × SState))
  | [], σ, u => some (some (u, σ))
  | o :: r, σ, u => match sopOf P o σ with
    | some (.pan _) => some none
    | some (.nilq _ _) => segsC P ops r (σ.put o.dst (.e (.sym u) true)) (u + 1)
    | some (.call _ _ rs) => segsC P ops r (σ.put o.dst (resSV (.sym u) rs)) (u + 1)
    | some (.wcallv _ _ rs) => segsC P ops r ((setH σ (.tget 1 (.sym u))).put o.dst (resSV (.tget 0 (.sym u)) rs)) (u + 1)
    | some (.wcall _ _ rs) => segsC P ops r ((setH σ (.tget 1 (.sym u))).put o.dst (resSV (.tget 0 (.sym u)) rs)) (u + 1)
    | none => match rstep P ops o σ u with
      | some (σ', none) => segsC P ops r σ' u
      | some (σ', some _) => segsC P ops r σ' (u + 1)
      | none => none

section
variable {P : Program} {w0 : World} {X : Ent}

theorem run_eqNil {t e : TypeId} {v : Value} {w : World} (ht : P.underlying t = some (.slice e)) (hv : ∃ ad n c, v = .slice ad n c) : ∃ b, (binOp .eql t v (.slice none 0 0)).run P w = .ok (.bool b) w ∧ (binOp .neq t v (.slice none 0 0)).run P w = .ok (.bool (!b)) w ∧ (b = true ↔ ∃ n c, v = .slice none n c) := by
  obtain ⟨ad, n, c, rfl⟩ := hv
  exact ⟨ad.isNone, Lib.run_eql_slice_nil w t e ad n c 0 0 ht, run_neq_slice_nil_any w t e ad n c 0 0 ht, by cases ad <;> simp⟩

theorem isNil_rd {w : World} {S : Sets} {v : Value} {d : D} {bs : List Bool} (h : RdD w S v d) (hb : d.isNil = some bs) : (∃ ad n c, v = .slice ad n c) ∧ ∀ b : Bool, (b = true ↔ ∃ n c, v = .slice none n c) → b ∈ bs := by
  unfold D.isNil at hb
  split at hb
  · cases hb
    obtain ⟨ad, n, c, hv, _⟩ := h.lst_form
    exact ⟨⟨ad, n, c, hv⟩, fun b _ => by cases b <;> simp⟩
  · cases hb
    rename_i hne
    cases h with
    | nil => exact absurd rfl hne
    | emp _ => exact absurd rfl hne
    | lst => exact ⟨⟨_, _, _, rfl⟩, fun b hb => by cases b <;> simp at hb ⊢⟩
  · cases hb
    cases h
    exact ⟨⟨_, _, _, rfl⟩, fun b hb => by cases b <;> simp at hb ⊢⟩
  · cases hb
    cases h
    exact ⟨⟨_, _, _, rfl⟩, fun b hb => by cases b <;> simp at hb ⊢⟩
  · cases hb

theorem hsOf_eval {w : World} {a : Act} {σ : SState} {env : List D} {ρ : Rho} (h : Rep w0 X w a σ env ρ) {cf : StCfg} {x : E} (hx : σ.hs = some (.store cf x)) : hsOf σ = x ∧ σ.obj HID = some (.store cf x) ∧ ∃ bs, x.eval env = some (.st bs) ∧ StOk w ρ.S ρ.foot bs := by
  have hob : σ.obj HID = some (.store cf x) := by unfold SState.obj; rw [if_pos rfl]; exact hx
  obtain ⟨bs, h1, h2, _⟩ := h.objs _ _ hob
  exact ⟨by simp [hsOf, hx], hob, bs, h1, h2⟩

/-- what is owed at a panic -/
def PanQ (w0 : World) (X : Ent) (Q : Sig → Prop) (Q' : Exit → Act → World → Prop) : Prop :=
  ∀ (w : World) (a : Act) (σ : SState) (env : List D) (ρ : Rho) (v : Value) (d : D) (bs : List D), Rep w0 X w a σ env ρ → RdD w ρ.S v d → StOk w ρ.S ρ.foot bs → (∃ cf x, σ.obj HID = some (.store cf x)) → (∃ kd, KeepRd w ρ.S a (keepOf σ) kd ∧ Q (.pan d (.st bs) (keepOf σ) kd)) → Q' (.panic [{ v, recovered := false }]) a w

theorem keepE_rd {w : World} {a : Act} {σ : SState} {env : List D} {ρ : Rho} (h : Rep w0 X w a σ env ρ) {ks : List E} (hk : keepE σ = some ks) {env0 : List D} {kd : List D} (he : evalAll env0 ks = some kd) (hp : env0 <+: env) : KeepRd w ρ.S a (keepOf σ) kd := by
  obtain ⟨ds, hev, hl, hrd⟩ := toEAll_rd (w := w) (ρ := ρ) (env := env) (vs := (keepOf σ).map fun s => a.tmps.getD s undef) hk (by simp) (fun i v s hv hs => by
    simp only [List.getElem?_map, Option.map_eq_some_iff] at hv hs
    obtain ⟨x, hx, rfl⟩ := hv
    obtain ⟨y, hy, rfl⟩ := hs
    rw [hx] at hy
    cases hy
    exact h.tmps x)
  have := evalAll_mono hp he
  rw [hev] at this
  cases this
  exact ⟨by simpa using hl.symm, fun i s d hs hd => hrd i _ d (by simp [hs]) hd⟩

theorem callable_run {f : FuncId} {o : Oper} {a : Act} {w : World} {c : Operand} {args : Array Operand} {ts : Array TypeId} (hcl : callable P f = true) (ho : o.op = .call { callee := .value c, args := args, argTypes := ts }) (hc : a.eval c = .func (.func f) #[] #[]) :
    (execOp a.eval o).run P w = .ok (.enter f (args.map a.eval)) w := by
  unfold callable at hcl
  split at hcl
  · rename_i fn hf
    simp only [Bool.and_eq_true, Bool.not_eq_true', Option.isSome_iff_ne_none] at hcl
    have hbn : fn.body.isNone = false := by
      cases hb : fn.body with
      | none => exact absurd hb hcl.2
      | some _ => rfl
    unfold execOp
    simp only [ho, resolve, hc, Deferred.ofValue, invoke, Sem.run_bind, Sem.run_pure, Result.andThen_ok, callFunc, run_program, hf, hcl.1, hbn, Bool.false_eq_true, if_false]
    simp
  · cases hcl

/-- **A special operation.** -/
theorem sop_sound {rd : Option Nat} {nd : Nat} {ops : Array Oper} {o : Oper} {s : Sop} {σ : SState} {rest : SState → Nat → Option T} {t : T} {env : List D} {Q : Sig → Prop} {Q' : Exit → Act → World → Prop} {K : Act → World → Prop} {a : Act} {w : World} {ρ : Rho}
    (hs : sopOf P o σ = some s) (hnd : noDefer o = true) (hd : ∀ d, o.dst = some d → d < σ.tmps.length) (ht : sopT s o σ env.length rest = some t) (hden : den P t env Q) (hr : Rep w0 X w a σ env ρ) (hp : PanQ w0 X Q Q')
    (hK : ∀ (σ' : SState) (env' : List D) (t' : T) (a' : Act) (w' : World) (ρ' : Rho), env <+: env' → rest σ' env'.length = some t' → den P t' env' Q → Rep w0 X w' a' σ' env' ρ' → σ'.tmps.length = σ.tmps.length → σ'.mem.length = σ.mem.length → K a' w') :
    Region.wanted o (yielded ops a.tmps) = true ∧ o.wpIn (FW rd) nd P a w K Q' := by
  unfold sopOf at hs
  split at hs
  · cases hs
  rename_i hg
  refine ⟨by simp [Region.wanted, hg], ?_⟩
  have hv := fun x => opd_rd (a := a) hr x
  have hplen : ∀ sv, (σ.put o.dst sv).tmps.length = σ.tmps.length ∧ (σ.put o.dst sv).mem.length = σ.mem.length := fun sv => by cases o.dst <;> simp [SState.put]
  -- an answer to the question for nil
  have nil : ∀ {op : BinOp} {ty yt : TypeId} {x y : Operand} {x' : E} {neg : Bool}, o.op = .binOp op ty x y yt → (op = .eql ∧ neg = false ∨ op = .neq ∧ neg = true) → (∃ e, P.underlying ty = some (.slice e)) → isNilS y = true → (σ.opd x).toE = some x' → s = .nilq x' neg → o.wpIn (FW rd) nd P a w K Q' := by
    intro op ty yt x y x' neg ho hop ⟨e, hu⟩ hy hx hs
    subst hs
    simp only [sopT] at ht
    obtain ⟨t', ht', rfl⟩ := Option.map_eq_some_iff.1 ht
    obtain ⟨d, bs, he, hb, hall⟩ := hden
    obtain ⟨d', he', hrd⟩ := SV.toE_rd hx (hv x)
    rw [he] at he'
    cases he'
    obtain ⟨hform, hmem⟩ := isNil_rd hrd hb
    obtain ⟨b, h1, h2, h3⟩ := run_eqNil (P := P) (w := w) hu hform
    have hye : a.eval y = .slice none 0 0 := by
      unfold isNilS at hy
      split at hy
      · rfl
      · cases hy
    have hd' := hall b (hmem b h3)
    have hguard : (eqGuard op ty x y (a.eval x) (.slice none 0 0)).run P w = .ok () w := by
      obtain ⟨ad, n, c, hvx⟩ := hform
      rw [hvx]
      rcases hop with ⟨rfl, _⟩ | ⟨rfl, _⟩ <;> simp [eqGuard]
    refine wpIn_of_upon (K := K) hnd ?_ fun _ _ h => h
    have hrun : (execOp a.eval o).run P w = .ok (.value (.bool (b != neg))) w := by
      unfold execOp
      rcases hop with ⟨rfl, rfl⟩ | ⟨rfl, rfl⟩
      · simp only [ho, hye, Sem.run_bind, hguard, Result.andThen_ok, h1, Sem.run_pure]; simp
      · simp only [ho, hye, Sem.run_bind, hguard, Result.andThen_ok, h2, Sem.run_pure]; simp
    rw [hrun]
    have hrep := (hr.env (prefix_append env [.v (.bool (b != neg))])).put (dst := o.dst) (v := .bool (b != neg)) (sv := .e (.sym env.length) true) hd (.e (d := .v (.bool (b != neg))) (by simp [E.eval]) (.v rfl) fun _ => rfl)
    exact hK _ _ t' _ _ _ (prefix_append env _) (by rw [List.length_append]; exact ht') hd' hrep (hplen _).1 (hplen _).2
  split at hs
  · rename_i x ho
    split at hs
    · rename_i y cf hx0 hx hhs
      cases hs
      simp only [sopT] at ht
      obtain ⟨ks, hks, rfl⟩ := Option.map_eq_some_iff.1 ht
      obtain ⟨d, st, kd, he, hh, hkd, hq⟩ := hden
      obtain ⟨d', he', hrd⟩ := SV.toE_rd hx (hv x)
      simp only [E.eval, he', Option.bind_some, D.m4] at he
      obtain ⟨h1, hob, bs, h2, h3⟩ := hsOf_eval hr hhs
      rw [h1, h2] at hh
      cases hh
      split at he
      case h_2 => cases he
      cases he
      have hrd0 := hrd
      generalize hve : a.eval x = v at hrd
      cases hrd with
      | ifc hd0 =>
        refine wpIn_of_upon (K := K) hnd ?_ fun _ _ h => h
        have hrun : (execOp a.eval o).run P w = .halt (.panic (a.eval x)) w := by
          unfold execOp
          simp only [ho, hve, Instr.panic, goPanic, Sem.run_bind]
          rfl
        rw [hrun]
        exact hp w a σ env ρ _ _ bs hr hrd0 h3 ⟨cf, _, hob⟩ ⟨kd, keepE_rd hr hks hkd (List.prefix_refl _), hq⟩
    · cases hs
  · rename_i ty x y yt ho
    split at hs
    · rename_i e hu
      split at hs
      · rename_i hy
        obtain ⟨x', hx, rfl⟩ := Option.map_eq_some_iff.1 hs
        exact nil ho (.inl ⟨rfl, rfl⟩) ⟨e, hu⟩ hy hx rfl
      · cases hs
    · cases hs
  · rename_i ty x y yt ho
    split at hs
    · rename_i e hu
      split at hs
      · rename_i hy
        obtain ⟨x', hx, rfl⟩ := Option.map_eq_some_iff.1 hs
        exact nil ho (.inr ⟨rfl, rfl⟩) ⟨e, hu⟩ hy hx rfl
      · cases hs
    · cases hs
  · rename_i c ho
    obtain ⟨callee, args, ts⟩ := c
    simp only at hs
    split at hs
    · rename_i c
      split at hs
      · rename_i f cf hE hfv hhs
        split at hs
        · split at hs
          · rename_i fn xs hfn hxs
            split at hs
            · rename_i rs hrs
              split at hs
              · cases hs
              · rename_i hcl
                have hcl : callable P f = true := by simpa using hcl
                obtain ⟨h1, hob, bs, h2, h3⟩ := hsOf_eval hr hhs
                have hc : a.eval c = .func (.func f) #[] #[] := by
                  have := hv c
                  rw [hfv] at this
                  obtain ⟨vs, he, hl', _⟩ := this.func_inv
                  rw [he]
                  have : vs = #[] := by simpa using hl'
                  rw [this]
                have hrun := callable_run (w := w) hcl ho hc
                obtain ⟨ds', hev', hdl, hrd⟩ := toEAll_rd (w := w) (ρ := ρ) (vs := (args.map a.eval).toList) hxs (by simp) (fun i v s hv' hs' => by
                  simp only [Array.toList_map, List.getElem?_map, Option.map_eq_some_iff] at hv' hs'
                  obtain ⟨x, hx', rfl⟩ := hv'
                  obtain ⟨y, hy', rfl⟩ := hs'
                  rw [hx'] at hy'
                  cases hy'
                  exact hv x)
                split at hs
                · split at hs
                  · cases hs
                  · rename_i hro
                    cases hs
                    simp only [sopT] at ht
                    obtain ⟨ks, hks, ht⟩ := Option.bind_eq_some_iff.1 ht
                    obtain ⟨t', ht', rfl⟩ := Option.map_eq_some_iff.1 ht
                    obtain ⟨st, ds, oo, h', hse, hev, hspec, hoo⟩ := hden
                    rw [h1, h2] at hse
                    cases hse
                    rw [hev] at hev'
                    cases hev'
                    refine wpIn_of_upon (K := K) hnd ?_ fun _ _ h => h
                    rw [hrun]
                    refine ⟨fun e => (by cases e), callsIn_wide.2 ?_⟩
                    refine (hspec w ρ.S ρ.foot bs (args.map a.eval) rfl h3 (hr.holdOk hob) (foot_lt hr hob) hr.cells (by simpa using hdl) (fun i v x hv hx' => hrd i v x (by simpa using hv) hx')).mono ?_
                    rintro e w' ⟨v, S', foot', bs', hends, rfl, hst', hk, hS, hos, htp, hout, hsz, hbl, hf', hS2, hS3⟩
                    cases oo with
                    | ret d =>
                      obtain ⟨rfl, hrv⟩ := hends
                      have hpre := prefix_append env [.tup [d, .st bs']]
                      have hix : (E.sym env.length).eval (env ++ [.tup [d, .st bs']]) = some (.tup [d, .st bs']) := by simp [E.eval]
                      have hrep := (hr.env hpre).setStore (x' := .tget 1 (.sym env.length)) hob (by simpa using hro) (by simp only [E.eval] at hix ⊢; rw [hix]; rfl) hst' hk hS hos htp hout hsz hbl hf' hS2 hS3
                      have hset : setH σ (.tget 1 (.sym env.length)) = σ.setObj HID (some (.store cf (.tget 1 (.sym env.length)))) := by unfold setH; rw [hhs]
                      refine hK _ _ t' _ _ _ hpre (by rw [List.length_append]; exact ht') hoo.2 (hset ▸ hrep.put (dst := o.dst) (by rw [SState.tmps_setObj]; exact hd) (resSV_rd (by simp only [E.eval] at hix ⊢; rw [hix]; rfl) hrv hoo.1)) ?_ ?_
                      · rw [hset]; cases o.dst <;> simp [SState.put, SState.tmps_setObj]
                      · rw [hset]; cases o.dst <;> simp [SState.put, SState.mlen_setObj]
                    | pan d =>
                      obtain ⟨rfl, hrv⟩ := hends
                      have hrep := (hr.env (prefix_append env [.st bs'])).setStore (x' := .sym env.length) hob (by simpa using hro) (by simp [E.eval]) hst' hk hS hos htp hout hsz hbl hf' hS2 hS3
                      obtain ⟨kd, hkd, hq⟩ := hoo
                      have hko : keepOf (σ.setObj HID (some (.store cf (.sym env.length)))) = keepOf σ := by
                        unfold keepOf
                        rw [hhs]
                        simp [SState.setObj]
                      have hke : keepE (σ.setObj HID (some (.store cf (.sym env.length)))) = some ks := by
                        unfold keepE at hks ⊢
                        rw [hko]
                        rw [← hks]
                        congr 1
                      exact hp w' a _ _ _ v d bs' hrep hrv hst' ⟨cf, _, by rw [SState.obj_setObj' (.inl rfl), if_pos rfl]⟩ ⟨kd, keepE_rd hrep hke hkd (prefix_append env _), by rw [hko]; exact hq⟩
                · cases hs
                  simp only [sopT] at ht
                  obtain ⟨ks, hks, ht⟩ := Option.bind_eq_some_iff.1 ht
                  obtain ⟨t', ht', rfl⟩ := Option.map_eq_some_iff.1 ht
                  obtain ⟨st, ds, oo, hse, hev, hspec, hoo⟩ := hden
                  rw [h1, h2] at hse
                  cases hse
                  rw [hev] at hev'
                  cases hev'
                  refine wpIn_of_upon (K := K) hnd ?_ fun _ _ h => h
                  rw [hrun]
                  refine ⟨fun e => (by cases e), callsIn_wide.2 ?_⟩
                  refine (hspec w ρ.S ρ.foot bs (args.map a.eval) rfl h3 (hr.holdOk hob) (foot_lt hr hob) hr.cells (by simpa using hdl) (fun i v x hv hx' => hrd i v x (by simpa using hv) hx')).mono ?_
                  rintro e w' ⟨v, S', hends, hbelow, hs1, hsn, hs2, hs3⟩
                  have hrep := hr.behind hbelow hs1 hsn hs2 hs3
                  cases oo with
                  | ret d =>
                    obtain ⟨rfl, hrv⟩ := hends
                    have hpre := prefix_append env [d]
                    exact hK _ _ t' _ _ _ hpre (by rw [List.length_append]; exact ht') hoo.2 ((hrep.env hpre).put (dst := o.dst) hd (resSV_rd (by simp [E.eval]) hrv hoo.1)) (hplen _).1 (hplen _).2
                  | pan d =>
                    obtain ⟨rfl, hrv⟩ := hends
                    obtain ⟨bs2, h4, h5, _⟩ := hrep.objs _ _ hob
                    rw [h2] at h4
                    cases h4
                    obtain ⟨kd, hkd, hq⟩ := hoo
                    exact hp w' a _ _ _ v d bs hrep hrv h5 ⟨cf, _, hob⟩ ⟨kd, keepE_rd hrep hks hkd (List.prefix_refl _), hq⟩
            · cases hs
          · cases hs
        · cases hs
      · rename_i xe sb cf hE hfv hhs
        split at hs
        · split at hs
          · rename_i rs xs hrs hxs
            split at hs
            · cases hs
            · rename_i hro
              cases hs
              obtain ⟨h1, hob, bs, h2, h3⟩ := hsOf_eval hr hhs
              have hcv := hv c
              rw [hfv] at hcv
              obtain ⟨dc, hdc, hrc, _⟩ := hcv.e_inv
              obtain ⟨ds', hev', hdl, hrd⟩ := toEAll_rd (w := w) (ρ := ρ) (vs := (args.map a.eval).toList) hxs (by simp) (fun i v s hv' hs' => by
                simp only [Array.toList_map, List.getElem?_map, Option.map_eq_some_iff] at hv' hs'
                obtain ⟨x, hx', rfl⟩ := hv'
                obtain ⟨y, hy', rfl⟩ := hs'
                rw [hx'] at hy'
                cases hy'
                exact hv x)
              simp only [sopT] at ht
              obtain ⟨ks, hks, ht⟩ := Option.bind_eq_some_iff.1 ht
              obtain ⟨t', ht', rfl⟩ := Option.map_eq_some_iff.1 ht
              obtain ⟨f, us, cs, st, ds, oo, h', hxe, hcl, hse, hev, hspec, hoo⟩ := hden
              rw [hdc] at hxe
              cases hxe
              rw [h1, h2] at hse
              cases hse
              rw [hev] at hev'
              cases hev'
              generalize hvc : a.eval c = vc at hrc
              cases hrc with
              | @fn _ uv cv _ _ hul hcll hur hcr =>
              have hrun : (execOp a.eval o).run P w = .ok (.enter f (uv ++ args.map a.eval ++ cv)) w := by
                unfold callable at hcl
                split at hcl
                · rename_i fn hf
                  simp only [Bool.and_eq_true, Bool.not_eq_true', Option.isSome_iff_ne_none] at hcl
                  have hbn : fn.body.isNone = false := by
                    cases hb : fn.body with
                    | none => exact absurd hb hcl.2
                    | some _ => rfl
                  unfold execOp
                  simp only [ho, resolve, hvc, Deferred.ofValue, invoke, Sem.run_bind, Sem.run_pure, Result.andThen_ok, callFunc, run_program, hf, hcl.1, hbn, Bool.false_eq_true, if_false]
                · cases hcl
              refine wpIn_of_upon (K := K) hnd ?_ fun _ _ h => h
              rw [hrun]
              refine ⟨fun e => (by cases e), callsIn_wide.2 ?_⟩
              refine (hspec w ρ.S ρ.foot bs _ rfl h3 (hr.holdOk hob) (foot_lt hr hob) hr.cells (by simp at hdl; simp [hul, hcll, hdl]) (fun i v x hv hx' => get3 (us := uv.toList) (vs := (args.map a.eval).toList) (ws := cv.toList) (R := fun v x => RdD w ρ.S v x) (by simpa using hul) hdl (fun i u x hu hx => hur i u x (by simpa using hu) hx) hrd (fun i u x hu hx => hcr i u x (by simpa using hu) hx) i v x (by rw [← Array.toList_append, ← Array.toList_append, Array.getElem?_toList]; exact hv) hx')).mono ?_
              rintro e w' ⟨v, S', foot', bs', hends, rfl, hst', hk, hS, hos, htp, hout, hsz, hbl, hf', hS2, hS3⟩
              cases oo with
              | ret d =>
                obtain ⟨rfl, hrv⟩ := hends
                have hpre := prefix_append env [.tup [d, .st bs']]
                have hix : (E.sym env.length).eval (env ++ [.tup [d, .st bs']]) = some (.tup [d, .st bs']) := by simp [E.eval]
                have hrep := (hr.env hpre).setStore (x' := .tget 1 (.sym env.length)) hob (by simpa using hro) (by simp only [E.eval] at hix ⊢; rw [hix]; rfl) hst' hk hS hos htp hout hsz hbl hf' hS2 hS3
                have hset : setH σ (.tget 1 (.sym env.length)) = σ.setObj HID (some (.store cf (.tget 1 (.sym env.length)))) := by unfold setH; rw [hhs]
                refine hK _ _ t' _ _ _ hpre (by rw [List.length_append]; exact ht') hoo.2 (hset ▸ hrep.put (dst := o.dst) (by rw [SState.tmps_setObj]; exact hd) (resSV_rd (by simp only [E.eval] at hix ⊢; rw [hix]; rfl) hrv hoo.1)) ?_ ?_
                · rw [hset]; cases o.dst <;> simp [SState.put, SState.tmps_setObj]
                · rw [hset]; cases o.dst <;> simp [SState.put, SState.mlen_setObj]
              | pan d =>
                obtain ⟨rfl, hrv⟩ := hends
                have hrep := (hr.env (prefix_append env [.st bs'])).setStore (x' := .sym env.length) hob (by simpa using hro) (by simp [E.eval]) hst' hk hS hos htp hout hsz hbl hf' hS2 hS3
                obtain ⟨kd, hkd, hq⟩ := hoo
                have hko : keepOf (σ.setObj HID (some (.store cf (.sym env.length)))) = keepOf σ := by
                  unfold keepOf
                  rw [hhs]
                  simp [SState.setObj]
                have hke : keepE (σ.setObj HID (some (.store cf (.sym env.length)))) = some ks := by
                  unfold keepE at hks ⊢
                  rw [hko]
                  rw [← hks]
                  congr 1
                exact hp w' a _ _ _ v d bs' hrep hrv hst' ⟨cf, _, by rw [SState.obj_setObj' (.inl rfl), if_pos rfl]⟩ ⟨kd, keepE_rd hrep hke hkd (prefix_append env _), by rw [hko]; exact hq⟩
          · cases hs
        · cases hs
      · cases hs
    · cases hs
  · cases hs

theorem den_bind1 {b : Bind} {t : T} {env : List D} {Q : Sig → Prop} (h : den P (.bind b t) env Q) : ∃ d, den P t (env ++ [d]) Q ∧ BindOk P (env ++ [d]) env.length (some b) := by
  obtain ⟨ds, hl, h1, h2⟩ := den_binds (bs := [b]) (t := t) h
  match ds, hl with
  | [d], _ => exact ⟨d, h1, h2 0 b rfl⟩

/-- **The operations of a region, one after the other.** -/
theorem segs_sound {rd : Option Nat} {nd : Nat} {ops : Array Oper} {Q : Sig → Prop} {Q' : Exit → Act → World → Prop} {k : SKont} (hp : PanQ w0 X Q Q') {N : Nat}
    (hsz : ∀ (j d : Nat), (ops[j]?).bind (fun (o : Oper) => o.dst) = some d → d < N) :
    ∀ {l : List Oper} {σ : SState} {t : T} {env : List D} {a : Act} {w : World} {ρ : Rho}, segs P ops l σ env.length k = some t → den P t env Q → Rep w0 X w a σ env ρ → σ.tmps.length = N → σ.mem.length = N →
      (∀ (σ' : SState) (env' : List D) (t' : T) (a' : Act) (w' : World) (ρ' : Rho), env <+: env' → k σ' env'.length = some t' → den P t' env' Q → Rep w0 X w' a' σ' env' ρ' → σ'.tmps.length = N → σ'.mem.length = N → Q' .normal a' w') → wpListIn (FW rd) nd P ops Q' l a w
  | [], σ, t, env, a, w, ρ, hs, hd, hr, h1, h2, hQ => hQ σ env t a w ρ (List.prefix_refl _) hs hd hr h1 h2
  | o :: r, σ, t, env, a, w, ρ, hs, hd, hr, h1, h2, hQ => by
    simp only [segs] at hs
    have next : ∀ {σ' : SState} {env' : List D} {t' : T} {a' : Act} {w' : World} {ρ' : Rho}, env <+: env' → segs P ops r σ' env'.length k = some t' → den P t' env' Q → Rep w0 X w' a' σ' env' ρ' → σ'.tmps.length = N → σ'.mem.length = N → wpListIn (FW rd) nd P ops Q' r a' w' := by
      intro σ' env' t' a' w' ρ' hpre hs' hd' hr' h1' h2'
      exact segs_sound hp hsz hs' hd' hr' h1' h2' fun σ2 env2 t2 a2 w2 ρ2 hp2 => hQ σ2 env2 t2 a2 w2 ρ2 (hpre.trans hp2)
    split at hs
    · rename_i s hso
      split at hs
      · rename_i hdst
        obtain ⟨hw, hwp⟩ := sop_sound (ops := ops) hso (dstOk_defer hdst) (dstOk_spec hdst) hs hd hr hp (K := wpListIn (FW rd) nd P ops Q' r) fun σ' env' t' a' w' ρ' hpre hk hd' hr' e1 e2 => next hpre hk hd' hr' (e1.trans h1) (e2.trans h2)
        unfold wpListIn
        rw [if_pos hw]
        exact hwp
      · cases hs
    · have go : ∀ {σ' : SState} {b : Option Bind} {env' : List D} {t' : T}, rstep P ops o σ env.length = some (σ', b) → env <+: env' → BindOk P env' env.length b → segs P ops r σ' env'.length k = some t' → den P t' env' Q → wpListIn (FW rd) nd P ops Q' (o :: r) a w := by
        intro σ' b env' t' hst hpre hb hs' hd'
        have hlen := rstep_len hst
        unfold wpListIn
        rcases rstep_sound (hr.env hpre) (by rw [h1, h2]) (List.IsPrefix.length_le hpre) (fun j d hjd => by rw [h1]; exact hsz j d hjd) hst hb with ⟨hw, hok⟩ | ⟨hw, hrep⟩
        · rw [if_pos hw]
          refine wpIn_of_upon (rstep_defer hst) (hok Q') ?_
          rintro a' w' ⟨ρ', hrep⟩
          exact next hpre hs' hd' hrep (hlen.1.trans h1) (hlen.2.trans h2)
        · rw [if_neg (by rw [hw]; simp)]
          refine ⟨fun _ _ => trivial, ?_⟩
          exact next hpre hs' hd' hrep (hlen.1.trans h1) (hlen.2.trans h2)
      split at hs
      · rename_i σ' hst
        exact go hst (List.prefix_refl _) trivial hs hd
      · rename_i σ' b hst
        obtain ⟨t', hs', rfl⟩ := Option.map_eq_some_iff.1 hs
        obtain ⟨d, hd', hb⟩ := den_bind1 hd
        exact go hst (prefix_append env [d]) hb (by rw [List.length_append]; exact hs') hd'
      · cases hs

/-! ## a region whose order is drawn, with a special operation at its end -/

theorem Oper.wpIn_monoQ {F : Fence} {n : Nat} {o : Oper} {a : Act} {w : World} {K : Act → World → Prop} {Q1 Q2 : Exit → Act → World → Prop} (h1 : ∀ c a w, Q1 (.panic c) a w → Q2 (.panic c) a w) (h2 : ∀ a w, Q1 .outgrown a w → Q2 .outgrown a w) (h : o.wpIn F n P a w K Q1) : o.wpIn F n P a w K Q2 := by
  unfold Oper.wpIn at *
  refine ⟨h.1, ?_⟩
  have h := h.2
  have hl : LetsOut Q1 → LetsOut Q2 := fun ⟨a, w, h⟩ => ⟨a, w, h2 a w h⟩
  generalize (o.semAt F.round a.eval).run P w = r at *
  cases r with
  | ok n w' =>
    cases n <;> simp only [Oper.uponIn] at h ⊢ <;>
      first
        | exact h
        | exact ⟨h.1, CallsIn.mono h.2 (fun e w'' he => by cases e <;> first | exact he | exact h1 _ _ _ he | exact hl he)⟩
        | exact ⟨h.1, RowsIn.mono h.2 (fun _ _ he => he)⟩
        | exact ⟨h.1, RoundIn.mono h.2 (fun e w'' he => by cases e <;> first | exact he | exact h1 _ _ _ he | exact hl he)⟩
  | halt x w' => cases x <;> simp only [Oper.uponIn] at h ⊢ <;> first | exact h1 _ _ _ h | exact h

/-- the last operation comes behind all others, whatever the order -/
def lastOk (ops : Array Oper) : Bool :=
  (List.range (ops.size - 1)).all (fun j => ((masks ops.toList []).getD (ops.size - 1) 0).testBit j) && (List.range ops.size).all fun i => match ops[i]? with
    | some o => (i == ops.size - 1 || match o.guard with | some (j, _) => decide (j < ops.size - 1) | none => true) && o.after.all fun e => !Region.binds .any e || decide (e.on < i)
    | none => false

theorem yielded_pop {ops : Array Oper} {tmps : Array Value} {j : Nat} (hj : j < ops.size - 1) : yielded ops.pop tmps j = yielded ops tmps j := by
  unfold yielded
  rw [Array.getElem?_pop]
  simp [hj]

theorem wpAny_last {F : Fence} {n : Nat} {ops : Array Oper} {Q : Exit → Act → World → Prop} (h0 : 0 < ops.size) (hl : lastOk ops = true) :
    ∀ (fuel : Nat) (listed : Array Bool) (a : Act) (w : World), listed.size = ops.size - 1 → Closed ops (doneOf listed) →
      wpAnyIn F n P .any ops.pop (fun e a w => match e with | .normal => wpOpIn F n P ops Q (ops.size - 1) (Q .normal) a w | e => Q e a w) fuel listed a w → wpAnyIn F n P .any ops Q (fuel + 1) (listed.push false) a w := by
  simp only [lastOk, Bool.and_eq_true, List.all_eq_true, List.mem_range] at hl
  obtain ⟨hlast, hall⟩ := hl
  have hat : ∀ (i : Nat) (o : Oper), ops[i]? = some o → (i < ops.size - 1 → ∀ j b, o.guard = some (j, b) → j < ops.size - 1) ∧ ∀ e, e ∈ o.after → Region.binds .any e = true → e.on < i := by
    intro i o ho
    have := hall i (Array.getElem?_eq_some_iff.1 ho).1
    rw [ho] at this
    simp only [Bool.and_eq_true, Bool.or_eq_true, beq_iff_eq] at this
    refine ⟨fun hi j b hg => ?_, fun e he hb => ?_⟩
    · have h1 := this.1.resolve_left (by omega)
      rw [hg] at h1
      simpa using h1
    · have := Array.all_eq_true'.1 this.2 e he
      simpa [hb] using this
  -- what the longer list says
  have hget : ∀ (listed : Array Bool) (j : Nat), listed.size = ops.size - 1 → j < ops.size - 1 → ∀ d, (listed.push false).getD j d = listed.getD j false := by
    intro listed j hs hj d
    simp only [Array.getD_eq_getD_getElem?]
    rw [Array.getElem?_push_lt (by omega)]
    simp [show j < listed.size by omega]
  have hgetm : ∀ (listed : Array Bool), listed.size = ops.size - 1 → ∀ d, (listed.push false).getD (ops.size - 1) d = false := by
    intro listed hs d
    simp only [Array.getD_eq_getD_getElem?, ← hs, Array.getElem?_push_size]
    rfl
  have hpop : ∀ i, i < ops.size - 1 → ops.pop[i]? = ops[i]? := fun i hi => by rw [Array.getElem?_pop]; simp [hi]
  have step : ∀ (fuel : Nat) (listed : Array Bool) (a : Act) (w : World), listed.size = ops.size - 1 → Closed ops (doneOf listed) →
      wpAnyIn F n P .any ops.pop (fun e a w => match e with | .normal => wpOpIn F n P ops Q (ops.size - 1) (Q .normal) a w | e => Q e a w) fuel listed a w →
      (∀ f, fuel = f + 1 → ∀ (listed : Array Bool) (a : Act) (w : World), listed.size = ops.size - 1 → Closed ops (doneOf listed) →
        wpAnyIn F n P .any ops.pop (fun e a w => match e with | .normal => wpOpIn F n P ops Q (ops.size - 1) (Q .normal) a w | e => Q e a w) f listed a w → wpAnyIn F n P .any ops Q (f + 1) (listed.push false) a w) →
      wpAnyIn F n P .any ops Q (fuel + 1) (listed.push false) a w := by
    intro fuel listed a w hs hcl h ih
    have hgd : ∀ (j : Nat), j < ops.size - 1 → listed.getD j true = listed.getD j false := fun j hj => by
      simp only [Array.getD_eq_getD_getElem?]
      simp [show j < listed.size by omega]
    refine ⟨fun hnil => ?_, fun i hi => ?_⟩
    · exfalso
      have hdone : ∀ j, j < ops.size → (listed.push false).getD j false = true := by
        intro j
        induction j using Nat.strongRecOn with
        | _ j ihj =>
          intro hj
          refine Classical.byContradiction fun hnd => ?_
          have hmem : j ∈ Region.ready .any ops (listed.push false) := by
            refine mem_ready.2 ⟨?_, ops[j], Array.getElem?_eq_getElem hj, fun e he hb => ?_⟩
            · rcases Nat.lt_or_ge j (ops.size - 1) with hlt | hge
              · rw [hget listed j hs hlt] at hnd ⊢
                simpa using hnd
              · have : j = ops.size - 1 := by omega
                rw [this, hgetm listed hs]
            · have := (hat j ops[j] (Array.getElem?_eq_getElem hj)).2 e he hb
              exact ihj e.on this (by omega)
          rw [hnil] at hmem
          cases hmem
      have := hdone (ops.size - 1) (by omega)
      rw [hgetm listed hs] at this
      cases this
    · obtain ⟨h1, o, ho, ha⟩ := mem_ready.1 hi
      have hin := (Array.getElem?_eq_some_iff.1 ho).1
      rcases Nat.lt_or_ge i (ops.size - 1) with hlt | hge
      · have hia : ∀ e, e ∈ o.after → Region.binds .any e = true → listed.getD e.on false = true := fun e he hb => by
          have h2 := ha e he hb
          have h3 := (hat i o ho).2 e he hb
          rwa [hget listed e.on hs (by omega)] at h2
        have hi' : i ∈ Region.ready .any ops.pop listed := by
          refine mem_ready.2 ⟨?_, o, by rw [hpop i hlt]; exact ho, hia⟩
          rw [hget listed i hs hlt] at h1
          rw [hgd i hlt]
          exact h1
        cases fuel with
        | zero => rw [h.1] at hi'; cases hi'
        | succ f =>
          have h2 := h.2 i hi'
          have hset : (listed.push false).setIfInBounds i true = (listed.setIfInBounds i true).push false := by
            apply Array.ext'
            rw [Array.toList_setIfInBounds, Array.toList_push, Array.toList_push, Array.toList_setIfInBounds, List.set_append_left _ _ (by simpa using (by omega : i < listed.size))]
          have hcl' : Closed ops (doneOf (listed.setIfInBounds i true)) := by
            intro k ok hk hok e he hb
            simp only [doneOf, Array.getD_eq_getD_getElem?, Array.getElem?_setIfInBounds] at hk ⊢
            by_cases hki : i = k
            · subst hki
              rw [ho] at hok
              cases hok
              have := hia e he hb
              simp only [Array.getD_eq_getD_getElem?] at this
              split
              · rename_i hh; simp [show i < listed.size by omega]
              · exact this
            · rw [if_neg hki] at hk
              have := hcl k ok (by simpa [doneOf, Array.getD_eq_getD_getElem?] using hk) hok e he hb
              simp only [doneOf, Array.getD_eq_getD_getElem?] at this
              split
              · simp [show i < listed.size by omega]
              · exact this
          have hnext := ih f rfl
          unfold wpOpIn at h2 ⊢
          rw [hpop i hlt, ho] at h2
          rw [ho]
          simp only at h2 ⊢
          have hwant : Region.wanted o (yielded ops.pop a.tmps) = Region.wanted o (yielded ops a.tmps) := by
            unfold Region.wanted
            cases hg : o.guard with
            | none => rfl
            | some g =>
              obtain ⟨j, b⟩ := g
              simp only
              rw [yielded_pop ((hat i o ho).1 hlt j b hg)]
          rw [hwant] at h2
          have fin : ∀ a' w', wpAnyIn F n P .any ops.pop (fun e a w => match e with | .normal => wpOpIn F n P ops Q (ops.size - 1) (Q .normal) a w | e => Q e a w) f (listed.setIfInBounds i true) a' w' → wpAnyIn F n P .any ops Q (f + 1) ((listed.push false).setIfInBounds i true) a' w' := by
            intro a' w' h3
            rw [hset]
            exact hnext _ a' w' (by simp [hs]) hcl' h3
          split
          · rename_i hw
            rw [if_pos hw] at h2
            exact Oper.wpIn_mono fin (Oper.wpIn_monoQ (fun _ _ _ h => h) (fun _ _ h => h) h2)
          · rename_i hw
            rw [if_neg hw] at h2
            exact ⟨h2.1, fin _ _ h2.2⟩
      · obtain rfl : i = ops.size - 1 := by omega
        have hia : ∀ e, e ∈ o.after → Region.binds .any e = true → doneOf listed e.on = true := fun e he hb => by
          have h2 := ha e he hb
          have h3 := (hat _ o ho).2 e he hb
          rwa [hget listed e.on hs h3] at h2
        have hdone : ∀ j, j < ops.size - 1 → doneOf listed j = true := fun j hj => masks_spec hcl ho hia (hlast j hj)
        have hnil : Region.ready .any ops.pop listed = [] := by
          cases hr : Region.ready .any ops.pop listed with
          | nil => rfl
          | cons j l =>
            have hmem : j ∈ Region.ready .any ops.pop listed := by rw [hr]; simp
            obtain ⟨h3, o', ho', _⟩ := mem_ready.1 hmem
            have hj : j < ops.size - 1 := by simpa using (Array.getElem?_eq_some_iff.1 ho').1
            rw [hgd j hj] at h3
            have := hdone j hj
            simp only [doneOf] at this
            rw [this] at h3
            cases h3
        have hq : wpOpIn F n P ops Q (ops.size - 1) (Q .normal) a w := by
          cases fuel with
          | zero => exact h.2
          | succ f => exact h.1 hnil
        refine wpOpIn_mono (fun a' w' hq' => ?_) hq
        have hall' : Region.ready .any ops ((listed.push false).setIfInBounds (ops.size - 1) true) = [] := by
          cases hr : Region.ready .any ops ((listed.push false).setIfInBounds (ops.size - 1) true) with
          | nil => rfl
          | cons j l =>
            have hmem : j ∈ Region.ready .any ops ((listed.push false).setIfInBounds (ops.size - 1) true) := by rw [hr]; simp
            obtain ⟨h3, o', ho', _⟩ := mem_ready.1 hmem
            have hj : j < ops.size := (Array.getElem?_eq_some_iff.1 ho').1
            simp only [Array.getD_eq_getD_getElem?, Array.getElem?_setIfInBounds] at h3
            split at h3
            · simp [hs] at h3
            · rename_i hne
              have hj' : j < ops.size - 1 := by omega
              have := hdone j hj'
              have h4 := hget listed j hs hj' true
              simp only [Array.getD_eq_getD_getElem?] at h4
              rw [h4] at h3
              simp only [doneOf, Array.getD_eq_getD_getElem?] at this
              rw [this] at h3
              cases h3
        cases fuel with
        | zero => exact ⟨hall', hq'⟩
        | succ f => exact ⟨fun _ => hq', fun j hj => by rw [hall'] at hj; cases hj⟩
  have hgd : ∀ (listed : Array Bool) (j : Nat), listed.size = ops.size - 1 → j < ops.size - 1 → listed.getD j true = listed.getD j false := fun listed j hs hj => by
    simp only [Array.getD_eq_getD_getElem?]
    simp [show j < listed.size by omega]
  intro fuel
  induction fuel with
  | zero =>
    intro listed a w hs hcl h
    exact step 0 listed a w hs hcl h fun f hf => by omega
  | succ fuel ih =>
    intro listed a w hs hcl h
    exact step (fuel + 1) listed a w hs hcl h fun f hf => by
      obtain rfl : f = fuel := by omega
      exact ih

end
end Go.Am
