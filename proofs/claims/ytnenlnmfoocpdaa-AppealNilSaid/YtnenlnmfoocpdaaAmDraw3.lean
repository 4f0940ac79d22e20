/-
  A region whose order is drawn: the check, and what it shows.
-/
import Derived.Test.YtnenlnmfoocpdaaAmDraw2
set_option linter.unusedSimpArgs false
set_option linter.unusedVariables false
namespace Go.Am

def Rec.touches (r : Rec) (ob : Nat) : Bool :=
  r.seen.any (fun sv => !sv.avoids ob) || !r.eff.val.avoids ob || r.eff.targets.contains ob || (match r.eff.upd with | some u => !u.2.avoids ob | none => false)

/-- must their order be that of the text? -/
def conf (ops : Array Oper) (oj oi : Oper) (rj ri : Rec) : Bool :=
  !oj.apart ops oi || rj.eff.targets.any ri.touches || ri.eff.targets.any rj.touches

def maskOf (ms : List Nat) (o : Oper) : Nat := o.after.toList.foldl (fun s e => if Region.binds .any e = true then s ||| 2 ^ e.on ||| ms.getD e.on 0 else s) 0

def masks : List Oper → List Nat → List Nat
  | [], ms => ms
  | o :: r, ms => masks r (ms ++ [maskOf ms o])

/-- only reads -/
def Rec.reader (r : Rec) : Bool := r.eff.upd.isNone && r.eff.del.isNone

/-- writes the store alone -/
def Rec.storer (r : Rec) : Bool := match r.eff.targets with | [k] => decide (k = HID) | _ => false

/-- one of them only reads, the other one writes the store alone, and no slot is between them -/
def softP (ops : Array Oper) (oj oi : Oper) (rj ri : Rec) : Bool := oj.apart ops oi && ((rj.reader && ri.storer) || (ri.reader && rj.storer))

def pairOk (ops : Array Oper) (m : Nat) (oi : Oper) (ri : Rec) (j : Nat) (oj : Oper) (rj : Rec) : Bool :=
  (!conf ops oj oi rj ri || m.testBit j || softP ops oj oi rj ri) && (!isNew oi || match ri.eff.upd with | some u => decide (u.1 = HID) || !rj.touches u.1 | none => true)

def opOk (ops : Array Oper) (R : List Rec) (σ : SState) (m i : Nat) : Bool :=
  match ops[i]?, R[i]? with
  | some oi, some ri => oi.after.all (fun e => !Region.binds .any e || decide (e.on < i)) && dstOk σ oi &&
      (!isNew oi || match ri.eff.upd with | some u => decide (u.1 = HID) || ((σ.obj u.1).isNone && σ.avoidsB u.1) | none => true) &&
      (List.range i).all fun j => match ops[j]?, R[j]? with
        | some oj, some rj => pairOk ops m oi ri j oj rj
        | _, _ => true
  | _, _ => false

/-- what is known of the store stays known -/
def cfKept (R : List Rec) (σ : SState) : Bool :=
  R.all fun r => decide (r.eff.del ≠ some HID) && match r.eff.upd with
    | some u => decide (u.1 = HID → cfO (some u.2) = cfOf σ.obj)
    | none => true

def orderOk (ops : Array Oper) (R : List Rec) (σ : SState) : Bool := cfKept R σ &&
  (List.range ops.size).all fun i => opOk ops R σ ((masks ops.toList []).getD i 0) i

/-- the writers of the store that may come before and behind the reader i -/
def softs (ops : Array Oper) (R : List Rec) (ms : List Nat) (i : Nat) : List Nat :=
  (List.range ops.size).filter fun j => (match R[j]? with | some rj => rj.storer | none => false) && !(decide (j < i) && (ms.getD i 0).testBit j) && !(decide (i < j) && (ms.getD j 0).testBit i) && decide (j ≠ i)

/-- the store that the reader i finds if the writer j has another place -/
def altObj (ops : Array Oper) (R : List Rec) (σ : SState) (i j : Nat) : Option SObj := (runTo ops R (fun k => decide (k < i) != (k == j)) σ ops.size).obj HID

/-- what has to be the same there -/
def altOk (P : Program) (ops : Array Oper) (R : List Rec) (σ : SState) (ms : List Nat) (i : Nat) : Option (List E) :=
  match ops[i]?, R[i]? with
  | some o, some r => if r.reader && r.touches HID then (match softs ops R ms i with
      | [] => some []
      | [j] => (match reff P ops o ((runTo ops R (fun _ => true) σ i).setObj HID (altObj ops R σ i j)) r.ix with
        | some e => if e.val.same r.eff.val && e.upd.isNone && e.del.isNone then (match e.bind, r.eff.bind with
            | some (.ev b), some (.ev a) => some [.m4 .same a b .nil .nil]
            | none, none => some []
            | _, _ => none) else none
        | none => none)
      | _ => none) else some []
  | _, _ => none

def extrasTo (P : Program) (ops : Array Oper) (R : List Rec) (σ : SState) (ms : List Nat) : Nat → Option (List E)
  | 0 => some []
  | n + 1 => (extrasTo P ops R σ ms n).bind fun xs => (altOk P ops R σ ms n).map (xs ++ ·)

/-- what has to be the same whatever the order -/
def extras (P : Program) (ops : Array Oper) (R : List Rec) (σ : SState) : Option (List E) := extrasTo P ops R σ (masks ops.toList []) ops.size

theorem extras_at {P : Program} {ops : Array Oper} {R : List Rec} {σ : SState} {ms : List Nat} : ∀ {n : Nat} {xs : List E}, extrasTo P ops R σ ms n = some xs → ∀ i, i < n → ∃ ys, altOk P ops R σ ms i = some ys ∧ ∀ y, y ∈ ys → y ∈ xs
  | 0, _, _, i, hi => by omega
  | n + 1, xs, h, i, hi => by
    simp only [extrasTo, Option.bind_eq_some_iff, Option.map_eq_some_iff] at h
    obtain ⟨zs, h1, ys, h2, rfl⟩ := h
    rcases Nat.lt_or_ge i n with hlt | hge
    · obtain ⟨ys', h3, h4⟩ := extras_at h1 i hlt
      exact ⟨ys', h3, fun y hy => List.mem_append.2 (.inl (h4 y hy))⟩
    · obtain rfl : i = n := by omega
      exact ⟨ys, h2, fun y hy => List.mem_append.2 (.inr hy)⟩

theorem storer_targets {r : Rec} (h : r.storer = true) : r.eff.targets = [HID] := by
  unfold Rec.storer at h
  split at h
  · rename_i k hk
    simp only [decide_eq_true_eq] at h
    rw [hk, h]
  · cases h

theorem reader_targets {r : Rec} (h : r.reader = true) : r.eff.targets = [] := by
  unfold Rec.reader at h
  simp only [Bool.and_eq_true, Option.isNone_iff_eq_none] at h
  unfold Eff.targets
  rw [h.1, h.2]
  rfl

section
variable {P : Program} {ops : Array Oper} {R : List Rec} {σ : SState} {D : Nat → Bool}

theorem strip_avoids {act : List (E × Bool)} {sv : SV} {ob : Nat} (h : (sv.strip act).avoids ob = false) : sv.avoids ob = false := by
  unfold SV.strip at h
  split at h
  · split at h
    · exact h
    · simp [SV.avoids] at h
  · exact h

theorem opv_avoids {act : List (E × Bool)} {x : Operand} {ob : Nat} (h : (σ.opv act x).avoids ob = false) : ∃ t, x = .tmp t ∧ (σ.tmp t).avoids ob = false := by
  have h := strip_avoids h
  cases x with
  | tmp t => exact ⟨t, rfl, h⟩
  | const v =>
    simp only [SState.opd, constSV] at h
    split at h <;> simp [SV.avoids] at h
  | global g => simp [SState.opd, SV.avoids] at h
  | func f => simp [SState.opd, SV.avoids, SV.avoidsAll] at h

theorem mem_looksAt {o : Oper} {t : Tmp} (h : Operand.tmp t ∈ o.op.operands) : t ∈ o.looksAt ops := by
  unfold Oper.looksAt
  refine List.mem_append.2 (.inl (List.mem_filterMap.2 ⟨.tmp t, by simpa using h, rfl⟩))

theorem runTo_cf (h : cfKept R σ = true) : ∀ n, cfOf (runTo ops R D σ n).obj = cfOf σ.obj
  | 0 => rfl
  | n + 1 => by
    have ih := runTo_cf h n
    unfold runTo
    split
    · have key : ∀ e : Eff, (e.del ≠ some HID ∧ ∀ u, e.upd = some u → u.1 = HID → cfO (some u.2) = cfOf σ.obj) → cfOf ((runTo ops R D σ n).app (dstAt ops n) e).obj = cfOf σ.obj := by
        rintro e ⟨h1, h2⟩
        by_cases ht : HID ∈ e.targets
        · unfold Eff.targets at ht
          cases hu : e.upd with
          | none =>
            rw [hu] at ht
            cases hk : e.del with
            | none => rw [hk] at ht; simp at ht
            | some k => rw [hk] at ht; simp at ht; exact absurd (by rw [hk, ← ht]) h1
          | some u =>
            by_cases hu1 : u.1 = HID
            · have hobj : ((runTo ops R D σ n).app (dstAt ops n) e).obj HID = some u.2 := by
                unfold SState.app
                rw [SState.obj_put, hu]
                simp only [SState.sets]
                rw [hu1, obj_setObj_eq, if_pos (.inl rfl)]
              rw [cfOf_eq, hobj]
              exact h2 u hu hu1
            · rw [hu] at ht
              cases hk : e.del with
              | none => rw [hk] at ht; simp at ht; exact absurd ht.symm hu1
              | some k =>
                rw [hk] at ht
                simp at ht
                rcases ht with ht | ht
                · exact absurd ht.symm hu1
                · exact absurd (by rw [hk, ← ht]) h1
        · rw [cfOf_eq, app_obj_ne ht, ← cfOf_eq]
          exact ih
      refine key _ ?_
      unfold effAt
      cases hr : R[n]? with
      | none => exact ⟨by simp, by simp⟩
      | some r =>
        have := List.all_eq_true.1 h r (List.mem_of_getElem? hr)
        simp only [Bool.and_eq_true, decide_eq_true_eq] at this
        refine ⟨this.1, fun u hu hh => ?_⟩
        have h2 := this.2
        simp only [Option.map_some, Option.getD_some] at hu
        rw [hu] at h2
        exact (of_decide_eq_true h2) hh
    · exact ih

theorem reff_congr {σ' : SState} {o : Oper} {ix : Nat} (ht : ∀ t, t ∈ o.looksAt ops → σ'.tmp t = σ.tmp t) (ho : ∀ t ob, t ∈ o.looksAt ops → (σ.tmp t).avoids ob = false → σ'.obj ob = σ.obj ob) (hC : cfOf σ'.obj = cfOf σ.obj) (hH : usesHr o (fun x => (σ.opd x).mayE) (cfOf σ.obj) = true → σ'.obj HID = σ.obj HID) : reff P ops o σ' ix = reff P ops o σ ix := by
  have hact : actOf ops σ' ix o.guard = actOf ops σ ix o.guard := by
    unfold actOf
    split
    · rfl
    · rename_i j want hg
      split
      · rename_i d hd
        rw [ht d (by unfold Oper.looksAt; rw [hg]; simp [hd])]
      · rfl
  have hv : ∀ act x, x ∈ o.op.operands → σ'.opv act x = σ.opv act x := by
    intro act x hx
    unfold SState.opv
    cases x with
    | tmp t => simp only [SState.opd]; rw [ht t (mem_looksAt hx)]
    | _ => rfl
  have hself : ∀ e, selfOk o σ' e = selfOk o σ e := by
    intro e
    unfold selfOk
    cases e.upd with
    | none => rfl
    | some u =>
      simp only
      congr 1
      congr 1
      rw [Bool.eq_iff_iff, Array.all_eq_true_iff_forall_mem, Array.all_eq_true_iff_forall_mem]
      exact ⟨fun h x hx => by rw [← hv [] x hx]; exact h x hx, fun h x hx => by rw [hv [] x hx]; exact h x hx⟩
  have hstep : ∀ act, estep P o σ'.opv act σ'.obj ix = estep P o σ.opv act σ.obj ix := fun act => estep_congr (opv := σ.opv) (obj := σ.obj) hv (fun act x ob hx hav => by
    obtain ⟨t, rfl, hav'⟩ := opv_avoids hav
    exact (ho t ob (mem_looksAt hx) hav').symm) (m := fun x => (σ.opd x).mayE) (fun act x _ he => by obtain ⟨e, s, he⟩ := he; exact strip_mayE he) hC.symm fun h => (hH h).symm
  have hcw : ∀ e, callWrites o (σ'.obj HID) ix e = callWrites o (σ.obj HID) ix e := by
    intro e
    cases hc : isCallV o with
    | false => simp [callWrites, hc]
    | true =>
      rw [hH ?_]
      unfold isCallV at hc
      unfold usesHr
      split at hc
      · rename_i c hop
        rw [hop]
        simp only
        split at hc
        · rename_i g hcc
          rw [hcc]
        · cases hc
      · cases hc
  unfold reff
  rw [hact]
  split
  · rfl
  · rename_i act _
    rw [hstep act]
    simp only [hself, hcw]

/-! ## masks -/

/-- what is done is closed -/
def Closed (ops : Array Oper) (D : Nat → Bool) : Prop := ∀ k o, D k = true → ops[k]? = some o → ∀ e, e ∈ o.after → Region.binds .any e = true → D e.on = true

def GoodMs (ops : Array Oper) (D : Nat → Bool) (ms : List Nat) : Prop :=
  ∀ (i m : Nat), ms[i]? = some m → ∃ o : Oper, ops[i]? = some o ∧ ((∀ e, e ∈ o.after → Region.binds .any e = true → D e.on = true) → ∀ j, m.testBit j = true → D j = true)

theorem maskOf_spec (hD : Closed ops D) {ms : List Nat} (hg : GoodMs ops D ms) {o : Oper} (ho : ∀ e, e ∈ o.after → Region.binds .any e = true → D e.on = true) : ∀ j, (maskOf ms o).testBit j = true → D j = true := by
  have go : ∀ (l : List Edge) (s : Nat), (∀ e, e ∈ l → Region.binds .any e = true → D e.on = true) → (∀ j, s.testBit j = true → D j = true) → ∀ j, (l.foldl (fun s e => if Region.binds .any e = true then s ||| 2 ^ e.on ||| ms.getD e.on 0 else s) s).testBit j = true → D j = true := by
    intro l
    induction l with
    | nil => intro s _ hs; exact hs
    | cons e l ih =>
      intro s hl hs
      refine ih _ (fun e' he' => hl e' (by simp [he'])) fun j hj => ?_
      dsimp only at hj
      split at hj
      · rename_i hb
        have hon := hl e (by simp) hb
        simp only [Nat.testBit_or, Bool.or_eq_true] at hj
        rcases hj with (hj | hj) | hj
        · exact hs j hj
        · rw [Nat.testBit_two_pow] at hj
          simp at hj
          rw [← hj]; exact hon
        · rw [List.getD_eq_getElem?_getD] at hj
          cases hm : ms[e.on]? with
          | none => rw [hm] at hj; simp at hj
          | some m =>
            rw [hm] at hj
            obtain ⟨o', ho', h'⟩ := hg e.on m hm
            exact h' (hD e.on o' hon ho') j hj
      · exact hs j hj
  exact go o.after.toList 0 (fun e he => ho e (by simpa using he)) (by simp)

theorem masks_good (hD : Closed ops D) : ∀ {l : List Oper} {ms : List Nat}, ops.toList.drop ms.length = l → GoodMs ops D ms → GoodMs ops D (masks l ms)
  | [], ms, _, hg => hg
  | o :: r, ms, hl, hg => by
    unfold masks
    have hat : ops[ms.length]? = some o := by
      have := congrArg (fun l => l[0]?) hl
      simpa using this
    refine masks_good hD ?_ ?_
    · have : ops.toList.drop (ms.length + 1) = r := by
        rw [← List.drop_drop, hl]; rfl
      simpa using this
    · show ∀ (i m : Nat), _
      intro i m hi
      rcases Nat.lt_or_ge i ms.length with h | h
      · rw [List.getElem?_append_left h] at hi
        exact hg i m hi
      · rw [List.getElem?_append_right h] at hi
        have hi0 : i = ms.length := by
          rcases Nat.eq_or_lt_of_le h with h | h
          · exact h.symm
          · rw [List.getElem?_eq_none (by simp; omega)] at hi; cases hi
        subst hi0
        simp at hi
        subst hi
        exact ⟨o, hat, fun ho => maskOf_spec hD hg ho⟩

theorem masks_spec (hD : Closed ops D) {i : Nat} {o : Oper} (ho : ops[i]? = some o) (ha : ∀ e, e ∈ o.after → Region.binds .any e = true → D e.on = true) {j : Nat} (hj : ((masks ops.toList []).getD i 0).testBit j = true) : D j = true := by
  have hg := masks_good hD (l := ops.toList) (ms := []) rfl (fun i m hi => by simp at hi)
  rw [List.getD_eq_getElem?_getD] at hj
  cases hm : (masks ops.toList [])[i]? with
  | none => rw [hm] at hj; simp at hj
  | some m =>
    rw [hm] at hj
    obtain ⟨o', ho', h'⟩ := hg i m hm
    rw [ho] at ho'
    cases ho'
    exact h' ha j hj

/-! ## the run in the text's order -/

abbrev lex (ops : Array Oper) (R : List Rec) (σ : SState) (i : Nat) : SState := runTo ops R (fun _ => true) σ i

theorem drun_spec {env : List Am.D} : ∀ {l : List Oper} {k : Nat} {σk : SState} {ix : Nat} {σ' : SState} {bs : List Bind} {rs : List Rec}, drun P ops l σk ix = some (σ', bs, rs) → ops.toList.drop k = l → R.drop k = rs → k ≤ ops.size →
    lex ops R σ k = σk → BindsOk P env ix bs → ix + bs.length ≤ env.length →
    lex ops R σ ops.size = σ' ∧ ∀ (i : Nat) (o : Oper), k ≤ i → ops[i]? = some o → ∃ r, R[i]? = some r ∧ reff P ops o (lex ops R σ i) r.ix = some r.eff ∧ r.seen = seenOf ops o (lex ops R σ i) ∧ BindOk P env r.ix r.eff.bind ∧ r.ix ≤ env.length
  | [], k, σk, ix, σ', bs, rs, h, hl, _, hk, hσ, _, _ => by
    simp [drun] at h
    have : k = ops.size := by
      have := congrArg List.length hl
      simp at this
      omega
    subst this
    refine ⟨hσ.trans h.1, fun i o hi ho => ?_⟩
    have := (Array.getElem?_eq_some_iff.1 ho).1
    omega
  | o :: l, k, σk, ix, σ', bs, rs, h, hl, hr, hk, hσ, hb, hix => by
    have hat : ops[k]? = some o := by
      have := congrArg (fun l => l[0]?) hl
      simpa using this
    have hk1 : k + 1 ≤ ops.size := (Array.getElem?_eq_some_iff.1 hat).1
    have hl' : ops.toList.drop (k + 1) = l := by rw [← List.drop_drop, hl]; rfl
    -- the record, and the rest
    have go : ∀ {e : Eff} {ix' : Nat} {bs' : List Bind} {rs' : List Rec}, reff P ops o σk ix = some e → drun P ops l (σk.app o.dst e) ix' = some (σ', bs', rs') → rs = ⟨e, seenOf ops o σk, ix⟩ :: rs' → BindOk P env ix e.bind → ix ≤ env.length → BindsOk P env ix' bs' → ix' + bs'.length ≤ env.length →
        lex ops R σ ops.size = σ' ∧ ∀ (i : Nat) (o : Oper), k ≤ i → ops[i]? = some o → ∃ r, R[i]? = some r ∧ reff P ops o (lex ops R σ i) r.ix = some r.eff ∧ r.seen = seenOf ops o (lex ops R σ i) ∧ BindOk P env r.ix r.eff.bind ∧ r.ix ≤ env.length := by
      intro e ix' bs' rs' he hd hrs hbo hixl hb' hix'
      have hRk : R[k]? = some ⟨e, seenOf ops o σk, ix⟩ := by
        have := congrArg (fun l => l[0]?) (hr.trans hrs)
        simpa using this
      have hr' : R.drop (k + 1) = rs' := by rw [← List.drop_drop, hr, hrs]; rfl
      have hσ' : lex ops R σ (k + 1) = σk.app o.dst e := by
        unfold lex runTo
        simp only [if_true, dstAt, hat, effAt, hRk, Option.bind_some, Option.map_some, Option.getD_some]
        rw [show runTo ops R (fun _ => true) σ k = σk from hσ]
      obtain ⟨h1, h2⟩ := drun_spec hd hl' hr' hk1 hσ' hb' hix'
      refine ⟨h1, fun i o' hi ho' => ?_⟩
      rcases Nat.eq_or_lt_of_le hi with heq | hlt
      · subst heq
        rw [hat] at ho'
        cases ho'
        exact ⟨_, hRk, by rw [hσ]; exact he, by rw [hσ], hbo, hixl⟩
      · exact h2 i o' hlt ho'
    simp only [drun] at h
    split at h
    · cases h
    · rename_i e he
      split at h
      · rename_i hbe
        obtain ⟨⟨τ, bs', rs'⟩, h2, h3⟩ := Option.map_eq_some_iff.1 h
        cases h3
        exact go he h2 rfl (by rw [hbe]; trivial) (by omega) hb hix
      · rename_i b hbe
        obtain ⟨⟨τ, bs', rs'⟩, h2, h3⟩ := Option.map_eq_some_iff.1 h
        cases h3
        simp only [List.length_cons] at hix
        refine go he h2 rfl (by rw [hbe]; simpa using hb 0 b rfl) (by omega) (fun i b' hi => ?_) (by omega)
        have := hb (i + 1) b' (by simpa using hi)
        rwa [show ix + (i + 1) = ix + 1 + i from by omega] at this

/-! ## fresh names -/

theorem avoidsAll_iff {ob : Nat} : ∀ {l : List SV}, SV.avoidsAll ob l = true ↔ ∀ x, x ∈ l → x.avoids ob = true
  | [] => by simp [SV.avoidsAll]
  | a :: l => by simp [SV.avoidsAll, avoidsAll_iff (l := l)]

theorem freshAt_app {ob : Nat} {τ : SState} {dst : Option Tmp} {e : Eff} (h : freshAt τ ob) (hv : e.val.avoids ob = true) (ht : ob ∉ e.targets) (hu : ∀ u, e.upd = some u → u.2.avoids ob = true) : freshAt (τ.app dst e) ob := by
  obtain ⟨h1, h2⟩ := h
  refine ⟨by rw [app_obj_ne ht]; exact h1, ?_⟩
  have hset : ∀ (τ : SState) (k : Nat) (x : Option SObj), τ.avoidsB ob = true → (∀ y, x = some y → y.avoids ob = true) → (τ.setObj k x).avoidsB ob = true := by
    intro τ k x ht hx
    unfold SState.setObj
    simp only [SState.avoidsB, Bool.and_eq_true, List.all_eq_true] at ht ⊢
    split
    · refine ⟨ht.1, ?_⟩
      cases x with
      | none => rfl
      | some z => exact hx z rfl
    · refine ⟨⟨ht.1.1, fun y hy => ?_⟩, ht.2⟩
      rcases List.mem_or_eq_of_mem_set hy with hy | rfl
      · exact ht.1.2 y hy
      · cases y with
        | none => rfl
        | some z => exact hx z rfl
  have h3 : (τ.dels e.del).avoidsB ob = true := by
    cases e.del with
    | none => exact h2
    | some k => exact hset τ k none h2 fun y hy => by cases hy
  have h4 : ((τ.dels e.del).sets e.upd).avoidsB ob = true := by
    cases hu' : e.upd with
    | none => exact h3
    | some u => exact hset _ _ _ h3 fun y hy => by cases hy; exact hu u hu'
  unfold SState.app
  cases dst with
  | none => exact h4
  | some d =>
    simp only [SState.avoidsB, Bool.and_eq_true, SState.put] at h4 ⊢
    refine ⟨⟨avoidsAll_iff.2 fun x hx => ?_, h4.1.2⟩, h4.2⟩
    rcases List.mem_or_eq_of_mem_set hx with hx | rfl
    · exact avoidsAll_iff.1 h4.1.1 x hx
    · exact hv

theorem touches_false {r : Rec} {ob : Nat} (h : r.touches ob = false) : r.eff.val.avoids ob = true ∧ ob ∉ r.eff.targets ∧ ∀ u, r.eff.upd = some u → u.2.avoids ob = true := by
  simp only [Rec.touches, Bool.or_eq_false_iff, Bool.not_eq_false'] at h
  refine ⟨h.1.1.2, by simpa using h.1.2, fun u hu => ?_⟩
  have := h.2
  rw [hu] at this
  simpa using this

theorem runTo_fresh {ob : Nat} (h : freshAt σ ob) : ∀ n, (∀ j, j < n → D j = true → ∃ r, R[j]? = some r ∧ r.touches ob = false) → freshAt (runTo ops R D σ n) ob
  | 0, _ => h
  | n + 1, hj => by
    have ih := runTo_fresh h n fun j hjn => hj j (by omega)
    unfold runTo
    split
    · rename_i hD
      obtain ⟨r, hr, ht⟩ := hj n (by omega) hD
      obtain ⟨h2, h3, h4⟩ := touches_false ht
      have he : effAt R n = r.eff := by simp [effAt, hr]
      rw [he]
      exact freshAt_app ih h2 h3 h4
    · exact ih

end
end Go.Am
