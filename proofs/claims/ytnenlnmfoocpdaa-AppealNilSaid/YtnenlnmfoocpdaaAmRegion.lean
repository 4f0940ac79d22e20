/-
  A region: its operations one after the other, guards and all.
-/
import Derived.Test.YtnenlnmfoocpdaaAmStep4
import Derived.Test.YtnenlnmfoocpdaaAmSame
set_option linter.unusedSimpArgs false
set_option linter.unusedVariables false
namespace Go.Am

def SState.opd (σ : SState) : Operand → SV
  | .tmp t => σ.tmp t
  | .const v => constSV v
  | .global _ => .junk
  | .func f => .func (.func f) []

def SState.opv (σ : SState) (act : List (E × Bool)) (x : Operand) : SV := (σ.opd x).strip act

def isAtom (ix : Nat) : E → Bool
  | .sym k => decide (k < ix)
  | .const _ => true
  | _ => false

/-- under which conditions an operation is carried out -/
def actOf (ops : Array Oper) (σ : SState) (ix : Nat) (g : Option (Nat × Bool)) : Option (List (E × Bool)) :=
  match g with
  | none => some []
  | some (j, want) => match (ops[j]?).bind (·.dst) with
    | some d => match σ.tmp d with
      | .e x _ => some [(x, want)]
      | .cond act (.e x _) => if isAtom ix x then some (act ++ [(x, want)]) else none
      | _ => none
    | none => none

def lstep (P : Program) (o : Oper) (opv : List (E × Bool) → Operand → SV) (act : List (E × Bool)) (obj : Nat → Option SObj) (ix : Nat) : Option LRes :=
  match o.op with
  | .move x | .assign x => some { val := opv act x }
  | .pick c a b => match (opv act c).toE with
    | some c' => match (opv (act ++ [(c', true)]) a).toE, (opv (act ++ [(c', false)]) b).toE with
      | some a', some b' => some { val := .e (.sym ix) false, bind := some (.ev (.ite c' a' b')) }
      | _, _ => none
    | none => none
  | .alloc t => if zeroOnes P t then lalloc P t o.dst else none
  | .box t x => lbox P t (opv act x) o.dst obj ix
  | .load t x => lload P t (opv act x) obj ix
  | .store t x y => lstore P t (opv act x) (opv act y) obj ix
  | .nilCheck x => lnil (opv act x) ix
  | .binOp op t x y _ => lbin P op t (opv act x) (opv act y) ix
  | .unOp op _ x => lun op (opv act x) ix
  | .convert src dst x => lconv P src dst (opv act x) ix
  | .fieldAddr s x f => match lfieldAddr P s (opv act x) f with
    | some r => some r
    | none => lfieldE P s (opv act x) f ix
  | .indexAddr t x i => lindexAddr P t (opv act x) (opv act i) obj ix
  | .extract x i => lextract (opv act x) i ix
  | .call c => match c.callee with
    | .builtin .len => match c.args.toList, c.argTypes.toList with
      | [x], [t] => llen P t (opv act x) obj ix
      | _, _ => none
    | .value f => match opv act f with
      | .func (.func f) [] => lcall P f (c.args.toList.map (opv act)) obj ix
      | .e x _ => lcallv P x (c.args.toList.map (opv act)) o obj ix
      | _ => none
    | _ => none
  | .makeFunc fn first caps => lmkfn fn (first.toList.map (opv act)) (caps.toList.map (opv act)) ix
  | _ => none

def guardAll (act : List (E × Bool)) (x : E) : E := act.foldr (fun p e => .guard p.1 p.2 e) x

def guardBind (act : List (E × Bool)) : Option Bind → Option Bind
  | none => none
  | some (.ev x) => some (.ev (guardAll act x))
  | some (.call a f h args rs) => some (.call (act ++ a) f h args rs)
  | some (.wcall a f h args rs) => some (.wcall (act ++ a) f h args rs)
  | some (.callv a x h args rs) => some (.callv (act ++ a) x h args rs)
  | some (.wcallv a x h args rs) => some (.wcallv (act ++ a) x h args rs)

def wrapSV (act : List (E × Bool)) (sv : SV) : SV := match act with | [] => sv | _ => .cond act sv

def SState.avoidsB (σ : SState) (d : Nat) : Bool := SV.avoidsAll d σ.tmps && (σ.mem.all fun x => match x with | some y => y.avoids d | none => true) && match σ.hs with | some y => y.avoids d | none => true

def dstOk (σ : SState) (o : Oper) : Bool := noDefer o && match o.dst with | some d => decide (d < σ.tmps.length) | none => true

theorem dstOk_spec {σ : SState} {o : Oper} (h : dstOk σ o = true) : ∀ d, o.dst = some d → d < σ.tmps.length := by
  intro d hd
  simp only [dstOk, hd, Bool.and_eq_true, decide_eq_true_eq] at h
  exact h.2

theorem dstOk_defer {σ : SState} {o : Oper} (h : dstOk σ o = true) : noDefer o = true := by
  simp only [dstOk, Bool.and_eq_true] at h
  exact h.1

section
variable {P : Program} {w w0 : World} {X : Ent} {a : Act} {σ : SState} {env : List D} {ρ : Rho}

theorem opd_rd (h : Rep w0 X w a σ env ρ) (x : Operand) : SRd w ρ env (a.eval x) (σ.opd x) := by
  cases x with
  | tmp t => exact h.tmps t
  | const v => exact constSV_rd v
  | global g => exact .junk
  | func f => exact .func (vs := #[]) rfl (by simp)

theorem opv_rd (h : Rep w0 X w a σ env ρ) {act : List (E × Bool)} (ha : actHolds env act) (x : Operand) : SRd w ρ env (a.eval x) (σ.opv act x) := SV.strip_rd (opd_rd h x) ha

theorem guardAll_eval : ∀ {act : List (E × Bool)} {x : E} {d : D}, actHolds env act → (guardAll act x).eval env = some d → x.eval env = some d
  | [], _, _, _, h => h
  | p :: r, x, d, ha, h => by
    have hp := ha p (by simp)
    simp only [guardAll, List.foldr_cons, E.eval, hp, if_true] at h
    exact guardAll_eval (fun q hq => ha q (by simp [hq])) h

theorem guardBind_ok {act : List (E × Bool)} {ix : Nat} {b : Option Bind} (ha : actHolds env act) (h : BindOk P env ix (guardBind act b)) : BindOk P env ix b := by
  cases b with
  | none => trivial
  | some b =>
    cases b with
    | ev x => obtain ⟨d, h1, h2⟩ := h; exact ⟨d, guardAll_eval ha h1, h2⟩
    | wcall act' f hx args rs =>
      obtain ⟨st, d, h', h0, h1, h2, h3⟩ := h
      have hiff : actHolds env (act ++ act') ↔ actHolds env act' := ⟨fun hh p hp => hh p (by simp [hp]), fun hh p hp => (List.mem_append.1 hp).elim (ha p) (hh p)⟩
      exact ⟨st, d, h', h0, h1, fun ha' => h2 (hiff.2 ha'), fun hn => h3 fun hh => hn (hiff.1 hh)⟩
    | wcallv act' x hx args rs =>
      obtain ⟨st, d, h', h0, h1, h2, h3⟩ := h
      have hiff : actHolds env (act ++ act') ↔ actHolds env act' := ⟨fun hh p hp => hh p (by simp [hp]), fun hh p hp => (List.mem_append.1 hp).elim (ha p) (hh p)⟩
      exact ⟨st, d, h', h0, h1, fun ha' => h2 (hiff.2 ha'), fun hn => h3 fun hh => hn (hiff.1 hh)⟩
    | callv act' x hx args rs =>
      obtain ⟨d, h1, h2⟩ := h
      refine ⟨d, h1, fun ha' => h2 fun p hp => ?_⟩
      rcases List.mem_append.1 hp with hp | hp
      · exact ha p hp
      · exact ha' p hp
    | call act' f hx args rs =>
      obtain ⟨d, h1, h2⟩ := h
      refine ⟨d, h1, fun ha' => h2 fun p hp => ?_⟩
      rcases List.mem_append.1 hp with hp | hp
      · exact ha p hp
      · exact ha' p hp

theorem isAtom_def {ix : Nat} {x : E} (h : isAtom ix x = true) (hix : ix ≤ env.length) : ∃ d, x.eval env = some d := by
  unfold isAtom at h
  split at h
  · rename_i k
    simp only [decide_eq_true_eq] at h
    have hk : k < env.length := Nat.lt_of_lt_of_le h hix
    exact ⟨env[k], by simp only [E.eval]; exact List.getElem?_eq_getElem hk⟩
  · exact ⟨_, rfl⟩
  · cases h

theorem getD_of_lt {a : Array Value} {d : Nat} (h : d < a.size) : a[d]? = some (a.getD d undef) := by
  rw [Array.getD_eq_getD_getElem?, Array.getElem?_eq_getElem h]
  rfl

theorem bool_lit {x : E} {v : Value} {d : D} {want : Bool} (hx : x.eval env = some d) (hr : RdD w ρ.S v d) : v = .bool want ↔ x.eval env = some (.v (.bool want)) := by
  rw [hx]
  constructor
  · rintro rfl
    cases hr
    rfl
  · intro h
    cases h
    exact hr.v_eq

theorem wanted_iff {ops : Array Oper} {ix : Nat} {o : Oper} {act : List (E × Bool)} (h : Rep w0 X w a σ env ρ) (hix : ix ≤ env.length) (hsz : ∀ (j d : Nat), (ops[j]?).bind (fun (o : Oper) => o.dst) = some d → d < σ.tmps.length) (hact : actOf ops σ ix o.guard = some act) :
    (∀ p, p ∈ act → ∃ d, p.1.eval env = some d) ∧ (Region.wanted o (yielded ops a.tmps) = true ↔ actHolds env act) := by
  unfold actOf at hact
  cases hg : o.guard with
  | none =>
    simp only [hg] at hact
    cases hact
    exact ⟨fun p hp => (by cases hp), (by simp [Region.wanted, hg, actHolds])⟩
  | some g =>
    obtain ⟨j, want⟩ := g
    simp only [hg] at hact
    split at hact
    · rename_i d hd
      have hdl := hsz j d hd
      have hslot := h.tmps d
      have hy : Region.wanted o (yielded ops a.tmps) = true ↔ a.tmps.getD d undef = .bool want := by
        simp only [Region.wanted, hg, yielded, hd, Option.bind_some, getD_of_lt (show d < a.tmps.size by rw [h.size]; exact hdl)]
        cases a.tmps.getD d undef <;> simp
      split at hact
      · rename_i x s hx
        cases hact
        rw [hx] at hslot
        obtain ⟨dx, hdx, hrd, _⟩ := hslot.e_inv
        refine ⟨fun p hp => by simp at hp; subst hp; exact ⟨dx, hdx⟩, ?_⟩
        rw [hy, bool_lit hdx hrd]
        simp [actHolds]
      · rename_i act' x s hx
        split at hact
        · rename_i hat
          cases hact
          rw [hx] at hslot
          obtain ⟨hdef, hyes, hno⟩ := hslot.cond_inv
          obtain ⟨dx, hdx⟩ := isAtom_def (env := env) hat hix
          refine ⟨fun p hp => ?_, ?_⟩
          · rcases List.mem_append.1 hp with hp | hp
            · exact hdef p hp
            · simp at hp; subst hp; exact ⟨dx, hdx⟩
          · rw [hy]
            have hsplit : actHolds env (act' ++ [(x, want)]) ↔ actHolds env act' ∧ x.eval env = some (.v (.bool want)) := by
              constructor
              · intro hh
                exact ⟨fun p hp => hh p (by simp [hp]), hh (x, want) (by simp)⟩
              · rintro ⟨h1, h2⟩ p hp
                rcases List.mem_append.1 hp with hp | hp
                · exact h1 p hp
                · simp at hp; subst hp; exact h2
            rw [hsplit]
            by_cases ha : actHolds env act'
            · obtain ⟨dx', hdx', hrd, _⟩ := (hyes ha).e_inv
              rw [bool_lit hdx' hrd]
              simp [ha]
            · rw [hno ha]
              simp [ha, undef]
        · cases hact
      · cases hact
    · cases hact

theorem avoidsB_spec {d : Nat} (h : σ.avoidsB d = true) : σ.avoids d := by
  simp only [SState.avoidsB, Bool.and_eq_true] at h
  refine ⟨fun t => ?_, fun o' x hx => ?_⟩
  · unfold SState.tmp
    rw [List.getD_eq_getElem?_getD]
    cases ht : σ.tmps[t]? with
    | none => rfl
    | some c => exact SV.avoidsAll_get h.1.1 ht
  · unfold SState.obj at hx
    split at hx
    · have h2 := h.2
      rw [hx] at h2
      exact h2
    · rw [List.getD_eq_getElem?_getD] at hx
      cases ho : σ.mem[o']? with
      | none => rw [ho] at hx; cases hx
      | some y =>
        rw [ho] at hx
        simp only [Option.getD_some] at hx
        subst hx
        have := List.all_eq_true.1 h.1.2 _ (List.mem_of_getElem? ho)
        simpa using this

theorem wrap_rd {act : List (E × Bool)} {sv : SV} {v : Value} (hd : ∀ p, p ∈ act → ∃ d, p.1.eval env = some d) (h : actHolds env act) (hv : SRd w ρ env v sv) : SRd w ρ env v (wrapSV act sv) := by
  cases act with
  | nil => exact hv
  | cons p r => exact .cond hd (fun _ => hv) fun hn => absurd h hn

theorem Rep.reput {dst : Option Tmp} {sv sv' : SV} {v : Value} (hd : ∀ d, dst = some d → d < σ.tmps.length) (h : Rep w0 X w (a.put dst v) (σ.put dst sv) env ρ) (hv : SRd w ρ env v sv → SRd w ρ env v sv') (ha : a.tmps.size = σ.tmps.length) : Rep w0 X w (a.put dst v) (σ.put dst sv') env ρ := by
  cases dst with
  | none => exact h
  | some d =>
    have hd := hd d rfl
    refine ⟨by simp [Act.put, SState.put, ha], fun t => ?_, h.objs, h.inj, h.own, h.cells, h.os, h.tape, h.output, h.grown, h.old, h.sub, h.new, h.nod, h.hold⟩
    have := h.tmps t
    rw [SState.tmp_put hd, Act.getD_put _ _ _ (by rw [ha]; exact hd)] at this ⊢
    split
    · rename_i e; rw [if_pos e, if_pos e] at this; exact hv this
    · rename_i e; rw [if_neg e, if_neg e] at this; exact this


/-- what must hold of a new variable's name -/
def freshOk (σ : SState) (o : Oper) (upd : Option (Nat × SObj)) : Prop :=
  ∀ ob x, upd = some (ob, x) → match o.op with
    | .alloc _ => σ.obj ob = none ∧ σ.avoids ob
    | .box _ y => σ.obj ob = none ∧ σ.avoids ob ∧ (σ.opv [] y).avoids ob = true
    | _ => True

theorem actHolds_nil : actHolds env [] := fun p hp => (by cases hp)

theorem lstep_sound {o : Oper} {act : List (E × Bool)} {ix : Nat} {r : LRes} (h : Rep w0 X w a σ env ρ) (ha : actHolds env act) (hl : lstep P o σ.opv act σ.obj ix = some r) (hd : ∀ d, o.dst = some d → d < σ.tmps.length) (hm : σ.mem.length = σ.tmps.length)
    (hb : BindOk P env ix r.bind) (hf : freshOk σ o r.upd) (hact : (∃ t x, o.op = .box t x) → r.upd ≠ none → act = []) : (r.upd = none ∧ OpOk P o a w w0 X (σ.put o.dst r.val) env) ∨ (∃ ob x, r.upd = some (ob, x) ∧ OpOk P o a w w0 X ((σ.setObj ob (some x)).put o.dst r.val) env) := by
  have hv := fun x => opv_rd (a := a) h ha x
  have hobj : ∀ ob y, σ.obj ob = some y → ob = HID ∨ ob < σ.mem.length := by
    intro ob y hy
    unfold SState.obj at hy
    split at hy
    · exact .inl (by assumption)
    · rw [List.getD_eq_getElem?_getD] at hy
      rcases Nat.lt_or_ge ob σ.mem.length with h1 | h1
      · exact .inr h1
      · rw [List.getElem?_eq_none h1] at hy; cases hy
  unfold lstep at hl
  split at hl
  · rename_i x ho; cases hl; exact .inl ⟨rfl, lmove_sound (.inl ho) (hv x) h hd⟩
  · rename_i x ho; cases hl; exact .inl ⟨rfl, lmove_sound (.inr ho) (hv x) h hd⟩
  · rename_i c x y ho
    split at hl
    · rename_i c' hc
      split at hl
      · rename_i x' y' hx hy
        cases hl
        obtain ⟨dc, hdc, hrc⟩ := SV.toE_rd hc (hv c)
        obtain ⟨dz, he, hix⟩ := hb
        simp only [E.eval, hdc] at he
        have hbr : ∀ b, dc = .v (.bool b) → actHolds env (act ++ [(c', b)]) := by
          intro b hb' p hp
          rcases List.mem_append.1 hp with hp | hp
          · exact ha p hp
          · simp at hp; subst hp; rw [hdc, hb']
        split at he
        · rename_i heq
          cases heq
          have hcv := hrc.v_eq
          obtain ⟨dx, hdx, hrx⟩ := SV.toE_rd hx (opv_rd (a := a) h (hbr true rfl) x)
          rw [hdx] at he
          cases he
          exact .inl ⟨rfl, opOk_same h hd (v := a.eval x) (by unfold execOp; simp [ho, hcv, asBool]) (.e (by rw [E.eval, hix]) hrx (by simp))⟩
        · rename_i heq
          cases heq
          have hcv := hrc.v_eq
          obtain ⟨dy, hdy, hry⟩ := SV.toE_rd hy (opv_rd (a := a) h (hbr false rfl) y)
          rw [hdy] at he
          cases he
          exact .inl ⟨rfl, opOk_same h hd (v := a.eval y) (by unfold execOp; simp [ho, hcv, asBool]) (.e (by rw [E.eval, hix]) hry (by simp))⟩
        · cases he
      · cases hl
    · cases hl
  · rename_i t ho
    split at hl
    · rename_i hz
      have hd2 : ∃ d x, o.dst = some d ∧ r.upd = some (d, x) := by
        unfold lalloc at hl
        split at hl
        · cases hl; exact ⟨_, _, by assumption, rfl⟩
        · cases hl
      obtain ⟨d0, x0, hd0, hu0⟩ := hd2
      have hf' := hf d0 x0 hu0
      rw [ho] at hf'
      obtain ⟨d, x, hdst, hu, _, hok⟩ := lalloc_sound ho hz hl h hd hm (fun d hd' => by rw [hd0] at hd'; cases hd'; exact hf')
      exact .inr ⟨d, x, hu, hok⟩
    · cases hl
  · rename_i t x ho
    have hd2 : ∃ d x, o.dst = some d ∧ r.upd = some (d, x) := by
      unfold lbox at hl
      split at hl
      · obtain ⟨_, _, rfl⟩ := Option.map_eq_some_iff.1 hl
        exact ⟨_, _, by assumption, rfl⟩
      · cases hl
    obtain ⟨d0, x0, hd0, hu0⟩ := hd2
    have hact0 : act = [] := hact ⟨_, _, ho⟩ (by rw [hu0]; simp)
    subst hact0
    have hf' := hf d0 x0 hu0
    rw [ho] at hf'
    obtain ⟨d, y, hdst, hu, hok⟩ := lbox_sound ho hl (hv x) h hd hm (fun d hd' => by rw [hd0] at hd'; cases hd'; exact hf') hb
    exact .inr ⟨d, y, hu, hok⟩
  · rename_i t x ho; exact .inl (lload_sound ho hl (hv x) h hd hb)
  · rename_i t x y ho
    obtain ⟨ob, z, hu, _, hval, hok⟩ := lstore_sound ho hl (hv x) (hv y) h hd hobj hb
    rw [hval]
    exact .inr ⟨ob, z, hu, hok⟩
  · rename_i x ho; exact .inl (lnil_sound ho hl (hv x) h hd hb)
  · rename_i op t x y yt ho; exact .inl (lbin_sound ho hl (hv x) (hv y) h hd hb)
  · rename_i op t x ho; exact .inl (lun_sound ho hl (hv x) h hd hb)
  · rename_i src dst x ho; exact .inl (lconv_sound ho hl (hv x) h hd hb)
  · rename_i s x f ho
    split at hl
    · rename_i hr
      cases hl
      obtain ⟨h1, _, h2⟩ := lfieldAddr_sound ho hr (hv x) h hd
      exact .inl ⟨h1, h2⟩
    · exact .inl (lfieldE_sound ho hl (hv x) h hd hb)
  · rename_i t x i ho; exact .inl (lindexAddr_sound ho hl (hv x) (hv i) h hd hb)
  · rename_i x i ho; exact .inl (lextract_sound ho hl (hv x) h hd hb)
  · rename_i c ho
    obtain ⟨callee, args, ts⟩ := c
    simp only at hl
    split at hl
    · split at hl
      · rename_i x t hx ht
        have e1 : args = #[x] := by rw [← Array.toArray_toList (xs := args), hx]
        have e2 : ts = #[t] := by rw [← Array.toArray_toList (xs := ts), ht]
        subst e1 e2
        exact .inl (llen_sound ho hl (hv x) h hd hb)
      · cases hl
    · rename_i c
      split at hl
      · rename_i f hfv
        have hc : a.eval c = .func (.func f) #[] #[] := by
          have := hv c
          rw [hfv] at this
          obtain ⟨vs, he, hl', _⟩ := this.func_inv
          rw [he]
          have : vs = #[] := by simpa using hl'
          rw [this]
        exact (lcall_sound ho hc hl (by simp) (fun i x s hi hs => by
          simp only [List.getElem?_map, Array.getElem?_toList, hi, Option.map_some, Option.some.injEq] at hs
          subst hs
          exact hv x) h hd hb)
      · rename_i x s hfv
        have hc := hv c
        rw [hfv] at hc
        exact lcallv_sound ho hc hl (by simp) (fun i x s hi hs => by
          simp only [List.getElem?_map, Array.getElem?_toList, hi, Option.map_some, Option.some.injEq] at hs
          subst hs
          exact hv x) h hd hb
      · cases hl
    · cases hl
  · rename_i fn first caps ho
    exact .inl (lmkfn_sound ho hl (by simp) (by simp) (fun i x s hi hs => by
          simp only [List.getElem?_map, Array.getElem?_toList, hi, Option.map_some, Option.some.injEq] at hs
          subst hs
          exact hv x) (fun i x s hi hs => by
          simp only [List.getElem?_map, Array.getElem?_toList, hi, Option.map_some, Option.some.injEq] at hs
          subst hs
          exact hv x) h hd hb)
  · cases hl

end
end Go.Am
