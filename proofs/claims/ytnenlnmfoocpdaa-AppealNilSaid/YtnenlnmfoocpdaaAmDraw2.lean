/-
  A region whose order is drawn: states by the set of what is done.
-/
import Derived.Test.YtnenlnmfoocpdaaAmDraw
set_option linter.unusedSimpArgs false
set_option linter.unusedVariables false
namespace Go.Am

structure Rec where
  eff : Eff
  seen : List SV
  ix : Nat
  deriving Inhabited

def dstAt (ops : Array Oper) (j : Nat) : Option Tmp := (ops[j]?).bind (·.dst)
def effAt (R : List Rec) (j : Nat) : Eff := ((R[j]?).map (·.eff)).getD ⟨.junk, none, none, none⟩

/-- the objects that are other afterwards -/
def Eff.targets (e : Eff) : List Nat := (match e.upd with | some u => [u.1] | none => []) ++ (match e.del with | some k => [k] | none => [])

/-- the state when those of the first n are done that are in D -/
def runTo (ops : Array Oper) (R : List Rec) (D : Nat → Bool) (σ : SState) : Nat → SState
  | 0 => σ
  | n + 1 => if D n = true then (runTo ops R D σ n).app (dstAt ops n) (effAt R n) else runTo ops R D σ n

/-- what an operation looks at -/
def seenOf (ops : Array Oper) (o : Oper) (σ : SState) : List SV := (o.looksAt ops).map σ.tmp ++ (if usesHr o (fun x => (σ.opd x).mayE) (cfOf σ.obj) then [.slc HID] else [])

/-- the operations in the order of the text -/
def drun (P : Program) (ops : Array Oper) : List Oper → SState → Nat → Option (SState × List Bind × List Rec)
  | [], σ, _ => some (σ, [], [])
  | o :: r, σ, ix => match reff P ops o σ ix with
    | none => none
    | some e => match e.bind with
      | none => (drun P ops r (σ.app o.dst e) ix).map fun x => (x.1, x.2.1, ⟨e, seenOf ops o σ, ix⟩ :: x.2.2)
      | some b => (drun P ops r (σ.app o.dst e) (ix + 1)).map fun x => (x.1, b :: x.2.1, ⟨e, seenOf ops o σ, ix⟩ :: x.2.2)

/-! ## states -/

theorem runTo_len (ops : Array Oper) (R : List Rec) (D : Nat → Bool) (σ : SState) : ∀ n, (runTo ops R D σ n).tmps.length = σ.tmps.length ∧ (runTo ops R D σ n).mem.length = σ.mem.length
  | 0 => ⟨rfl, rfl⟩
  | n + 1 => by
    have h := runTo_len ops R D σ n
    unfold runTo
    split
    · have := app_len (runTo ops R D σ n) (dstAt ops n) (effAt R n)
      exact ⟨this.1.trans h.1, this.2.trans h.2⟩
    · exact h

theorem tmp_put_ne {σ : SState} {dst : Option Tmp} {sv : SV} {t : Nat} (h : dst ≠ some t) : (σ.put dst sv).tmp t = σ.tmp t := by
  cases dst with
  | none => rfl
  | some d =>
    have : d ≠ t := fun e => h (by rw [e])
    simp [SState.put, SState.tmp, List.getD_eq_getElem?_getD, this]

theorem tmp_put_eq {σ : SState} {sv : SV} {t : Nat} : (σ.put (some t) sv).tmp t = if t < σ.tmps.length then sv else .junk := by
  simp only [SState.put, SState.tmp, List.getD_eq_getElem?_getD, List.getElem?_set]
  simp only [if_true]
  split <;> rfl

theorem dels_tmp (σ : SState) (k : Option Nat) (t : Nat) : (σ.dels k).tmp t = σ.tmp t := by cases k; rfl; exact σ.tmp_setObj _ _ t
theorem sets_tmp (σ : SState) (u : Option (Nat × SObj)) (t : Nat) : (σ.sets u).tmp t = σ.tmp t := by cases u; rfl; exact σ.tmp_setObj _ _ t
theorem dels_tmps (σ : SState) (k : Option Nat) : (σ.dels k).tmps = σ.tmps := by cases k; rfl; exact σ.tmps_setObj _ _
theorem sets_tmps (σ : SState) (u : Option (Nat × SObj)) : (σ.sets u).tmps = σ.tmps := by cases u; rfl; exact σ.tmps_setObj _ _

theorem app_tmp_ne {σ : SState} {dst : Option Tmp} {e : Eff} {t : Nat} (h : dst ≠ some t) : (σ.app dst e).tmp t = σ.tmp t := by
  unfold SState.app
  rw [tmp_put_ne h, sets_tmp, dels_tmp]

theorem app_tmp_eq {σ : SState} {e : Eff} {t : Nat} : (σ.app (some t) e).tmp t = if t < σ.tmps.length then e.val else .junk := by
  unfold SState.app
  rw [tmp_put_eq, sets_tmps, dels_tmps]

theorem obj_setObj_ne {σ : SState} {o o' : Nat} {x : Option SObj} (h : o ≠ o') : (σ.setObj o x).obj o' = σ.obj o' := σ.obj_setObj_ne x (Ne.symm h)

theorem obj_setObj_eq {σ : SState} {o : Nat} {x : Option SObj} : (σ.setObj o x).obj o = if o = HID ∨ o < σ.mem.length then x else none := by
  split
  · rename_i h; rw [SState.obj_setObj' h, if_pos rfl]
  · rename_i h
    rw [not_or] at h
    unfold SState.setObj SState.obj
    simp only [h.1, if_false, List.getD_eq_getElem?_getD]
    rw [List.getElem?_eq_none (by simpa using h.2)]
    rfl

theorem setObj_len (σ : SState) (o : Nat) (x : Option SObj) : (σ.setObj o x).mem.length = σ.mem.length := σ.mlen_setObj o x
theorem dels_len (σ : SState) (k : Option Nat) : (σ.dels k).mem.length = σ.mem.length := by cases k <;> simp [SState.dels, SState.mlen_setObj]

theorem app_obj_ne {σ : SState} {dst : Option Tmp} {e : Eff} {ob : Nat} (h : ob ∉ e.targets) : (σ.app dst e).obj ob = σ.obj ob := by
  unfold SState.app
  rw [SState.obj_put]
  unfold Eff.targets at h
  cases hu : e.upd with
  | none =>
    cases hk : e.del with
    | none => rfl
    | some k =>
      rw [hu, hk] at h
      simp only [SState.sets, SState.dels]
      exact obj_setObj_ne fun e => h (by simp [e])
  | some u =>
    rw [hu] at h
    simp only [SState.sets]
    rw [obj_setObj_ne fun e => h (by simp [e])]
    cases hk : e.del with
    | none => rfl
    | some k =>
      rw [hk] at h
      simp only [SState.dels]
      exact obj_setObj_ne fun e => h (by simp [e])

theorem app_obj_eq {σ τ : SState} {dst : Option Tmp} {e : Eff} {ob : Nat} (h : ob ∈ e.targets) (hl : σ.mem.length = τ.mem.length) : (σ.app dst e).obj ob = (τ.app dst e).obj ob := by
  unfold SState.app
  rw [SState.obj_put, SState.obj_put]
  unfold Eff.targets at h
  have hdel : ∀ (e' : Eff), e'.del = e.del → (∃ k, e.del = some k ∧ k = ob) → (σ.dels e.del).obj ob = (τ.dels e.del).obj ob := by
    rintro _ _ ⟨k, hk, rfl⟩
    rw [hk]
    simp only [SState.dels]
    rw [obj_setObj_eq, obj_setObj_eq, hl]
  cases hu : e.upd with
  | none =>
    rw [hu] at h
    cases hk : e.del with
    | none => rw [hk] at h; simp at h
    | some k =>
      rw [hk] at h
      simp only [SState.sets]
      have := hdel e rfl ⟨k, hk, by simp at h; exact h.symm⟩
      rwa [hk] at this
  | some u =>
    rw [hu] at h
    simp only [SState.sets]
    by_cases hob : u.1 = ob
    · subst hob
      rw [obj_setObj_eq, obj_setObj_eq, dels_len, dels_len, hl]
    · rw [obj_setObj_ne hob, obj_setObj_ne hob]
      cases hk : e.del with
      | none => rw [hk] at h; simp at h; exact absurd h.symm hob
      | some k =>
        rw [hk] at h
        have := hdel e rfl ⟨k, hk, by simp at h; exact (h.resolve_left fun e => hob e.symm).symm⟩
        rwa [hk] at this

section
variable {ops : Array Oper} {R : List Rec} {D D' : Nat → Bool} {σ : SState}

theorem runTo_tmp {t : Nat} : ∀ n, (∀ j, j < n → dstAt ops j = some t → D j = D' j) → (runTo ops R D σ n).tmp t = (runTo ops R D' σ n).tmp t
  | 0, _ => rfl
  | n + 1, h => by
    have ih := runTo_tmp n fun j hj => h j (by omega)
    unfold runTo
    by_cases hd : dstAt ops n = some t
    · rw [← h n (by omega) hd]
      split
      · rw [hd, app_tmp_eq, app_tmp_eq, (runTo_len ..).1, (runTo_len ..).1]
      · exact ih
    · split <;> split <;> (try simp only [app_tmp_ne hd]) <;> exact ih

theorem runTo_obj {ob : Nat} : ∀ n, (∀ j, j < n → ob ∈ (effAt R j).targets → D j = D' j) → (runTo ops R D σ n).obj ob = (runTo ops R D' σ n).obj ob
  | 0, _ => rfl
  | n + 1, h => by
    have ih := runTo_obj n fun j hj => h j (by omega)
    unfold runTo
    by_cases hd : ob ∈ (effAt R n).targets
    · rw [← h n (by omega) hd]
      split
      · exact app_obj_eq hd (by rw [(runTo_len ..).2, (runTo_len ..).2])
      · exact ih
    · split <;> split <;> (try simp only [app_obj_ne hd]) <;> exact ih

theorem runTo_congr : ∀ n, (∀ j, j < n → D j = D' j) → runTo ops R D σ n = runTo ops R D' σ n
  | 0, _ => rfl
  | n + 1, h => by
    unfold runTo
    rw [runTo_congr n fun j hj => h j (by omega), h n (by omega)]

/-- only those below i are done -/
theorem runTo_below {i : Nat} : ∀ n, i ≤ n → (∀ j, j < n → i ≤ j → D j = false) → runTo ops R D σ n = runTo ops R D σ i
  | 0, h, _ => by have : i = 0 := by omega
                  subst this; rfl
  | n + 1, h, hD => by
    rcases Nat.lt_or_ge i (n + 1) with hlt | hge
    · unfold runTo
      rw [hD n (by omega) (by omega)]
      simp only [Bool.false_eq_true, if_false]
      rw [runTo_below n (by omega) fun j hj => hD j (by omega)]
      cases i <;> rfl
    · have : i = n + 1 := by omega
      subst this; rfl

theorem runTo_tmp_at {i n t : Nat} (hi : i ≤ n) (h : ∀ j, j < n → dstAt ops j = some t → D j = decide (j < i)) : (runTo ops R D σ n).tmp t = (runTo ops R (fun _ => true) σ i).tmp t := by
  rw [runTo_tmp (D' := fun j => decide (j < i)) n h, runTo_below n hi (fun j _ hj => by simp; omega), runTo_congr (D' := fun _ => true) i (fun j hj => by simp [hj])]

theorem runTo_obj_at {i n ob : Nat} (hi : i ≤ n) (h : ∀ j, j < n → ob ∈ (effAt R j).targets → D j = decide (j < i)) : (runTo ops R D σ n).obj ob = (runTo ops R (fun _ => true) σ i).obj ob := by
  rw [runTo_obj (D' := fun j => decide (j < i)) n h, runTo_below n hi (fun j _ hj => by simp; omega), runTo_congr (D' := fun _ => true) i (fun j hj => by simp [hj])]

theorem setObj_comm (σ : SState) {o o' : Nat} (x y : Option SObj) (h : o ≠ o') : (σ.setObj o x).setObj o' y = (σ.setObj o' y).setObj o x := by
  unfold SState.setObj
  by_cases h1 : o = HID <;> by_cases h2 : o' = HID
  · exact absurd (h1.trans h2.symm) h
  · simp [h1, h2]
  · simp [h1, h2]
  · simp only [h1, h2, if_false]
    rw [List.set_comm _ _ h]

theorem put_comm (σ : SState) {d d' : Option Tmp} (x y : SV) (h : ∀ t, d = some t → d' ≠ some t) : (σ.put d x).put d' y = (σ.put d' y).put d x := by
  cases d with
  | none => rfl
  | some t => cases d' with
    | none => rfl
    | some t' =>
      have : t ≠ t' := fun e => h t rfl (by rw [e])
      simp [SState.put, List.set_comm _ _ this]

theorem put_setObj (σ : SState) (d : Option Tmp) (x : SV) (o : Nat) (y : Option SObj) : (σ.put d x).setObj o y = (σ.setObj o y).put d x := by
  unfold SState.setObj
  cases d <;> simp only [SState.put] <;> split <;> rfl

def setsL (σ : SState) (l : List (Nat × Option SObj)) : SState := l.foldl (fun σ u => σ.setObj u.1 u.2) σ

theorem setsL_setObj {o : Nat} {x : Option SObj} : ∀ {l : List (Nat × Option SObj)} {σ : SState}, (∀ u, u ∈ l → u.1 ≠ o) → (setsL σ l).setObj o x = setsL (σ.setObj o x) l
  | [], _, _ => rfl
  | u :: l, σ, h => by
    have := setsL_setObj (o := o) (x := x) (l := l) (σ := σ.setObj u.1 u.2) fun v hv => h v (by simp [hv])
    simp only [setsL, List.foldl_cons] at this ⊢
    rw [this, setObj_comm _ _ _ (h u (by simp))]

theorem setsL_comm : ∀ {l l' : List (Nat × Option SObj)} {σ : SState}, (∀ u u', u ∈ l → u' ∈ l' → u.1 ≠ u'.1) → setsL (setsL σ l) l' = setsL (setsL σ l') l
  | l, [], _, _ => rfl
  | l, u :: l', σ, h => by
    have h1 : setsL (setsL σ l) (u :: l') = setsL ((setsL σ l).setObj u.1 u.2) l' := rfl
    have h2 : setsL σ (u :: l') = setsL (σ.setObj u.1 u.2) l' := rfl
    rw [h1, h2, setsL_setObj fun v hv => h v u hv (by simp), setsL_comm fun v v' hv hv' => h v v' hv (by simp [hv'])]

def Eff.list (e : Eff) : List (Nat × Option SObj) := (match e.del with | some k => [(k, none)] | none => []) ++ (match e.upd with | some u => [(u.1, some u.2)] | none => [])

theorem app_list (σ : SState) (dst : Option Tmp) (e : Eff) : σ.app dst e = (setsL σ e.list).put dst e.val := by
  unfold SState.app Eff.list
  cases e.del <;> cases e.upd <;> rfl

theorem list_targets {e : Eff} {u : Nat × Option SObj} (h : u ∈ e.list) : u.1 ∈ e.targets := by
  unfold Eff.list at h
  unfold Eff.targets
  cases hd : e.del <;> cases hu : e.upd <;> rw [hd, hu] at h <;> simp at h ⊢
  · rw [h]
  · rw [h]
  · rcases h with h | h <;> rw [h] <;> simp

theorem setsL_put (d : Option Tmp) (x : SV) : ∀ (l : List (Nat × Option SObj)) (σ : SState), setsL (σ.put d x) l = (setsL σ l).put d x
  | [], _ => rfl
  | u :: l, σ => by
    have := setsL_put d x l (σ.setObj u.1 u.2)
    simp only [setsL, List.foldl_cons] at this ⊢
    rw [put_setObj, this]

theorem app_comm (σ : SState) {d d' : Option Tmp} {e e' : Eff} (hd : ∀ t, d = some t → d' ≠ some t) (hu : ∀ ob, ob ∈ e.targets → ob ∉ e'.targets) : (σ.app d e).app d' e' = (σ.app d' e').app d e := by
  rw [app_list, app_list, app_list, app_list, setsL_put, setsL_put, put_comm _ _ _ hd, setsL_comm fun u u' h1 h2 h3 => hu u.1 (list_targets h1) (h3 ▸ list_targets h2)]

/-- One more is done. -/
theorem runTo_add {i : Nat} (hi : D i = false) : ∀ n, i < n → (∀ j, j < n → i < j → D j = true → (∀ t, dstAt ops i = some t → dstAt ops j ≠ some t) ∧ ∀ ob, ob ∈ (effAt R i).targets → ob ∉ (effAt R j).targets) →
    runTo ops R (fun j => D j || j == i) σ n = (runTo ops R D σ n).app (dstAt ops i) (effAt R i)
  | 0, h, _ => by omega
  | n + 1, h, hc => by
    unfold runTo
    rcases Nat.lt_or_ge i n with hlt | hge
    · have ih := runTo_add hi n hlt fun j hj => hc j (by omega)
      have hne : (n == i) = false := by simp; omega
      rw [ih]
      simp only [hne, Bool.or_false]
      split
      · rename_i hD
        obtain ⟨h1, h2⟩ := hc n (by omega) hlt hD
        exact app_comm _ h1 h2
      · rfl
    · have : n = i := by omega
      subst this
      simp only [hi, BEq.rfl, Bool.or_true, if_true, Bool.false_eq_true, if_false]
      rw [runTo_congr (D' := D) n fun j hj => by simp; omega]

end

end Go.Am
