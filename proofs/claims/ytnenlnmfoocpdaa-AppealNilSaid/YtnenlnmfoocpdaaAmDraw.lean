/-
  A region whose order is drawn: whatever the order, the state in the end is that of the text's order.
-/
import Derived.Test.YtnenlnmfoocpdaaAmRun
set_option linter.unusedSimpArgs false
set_option linter.unusedVariables false
namespace Go.Am

/-! ## what an operation looks at -/

section congr
variable {P : Program} {obj obj' : Nat → Option SObj} {ix : Nat}

theorem cellsOf_congr {agg : Bool} {n : Nat} {x : SV} (h : ∀ ob, x.avoids ob = false → obj ob = obj' ob) : x.cellsOf agg n ix obj = x.cellsOf agg n ix obj' := by
  unfold SV.cellsOf
  split
  · rfl
  · cases x <;> try rfl
    · rename_i y s; cases s <;> rfl
    · rename_i o
      simp only
      rw [h o (by simp [SV.avoids])]

theorem lload_congr {t : TypeId} {x : SV} (h : ∀ ob, x.avoids ob = false → obj ob = obj' ob) (hh : (∃ e s, x = .e e s) → obj HID = obj' HID) : lload P t x obj ix = lload P t x obj' ix := by
  unfold lload hOf
  cases x <;> try rfl
  · rw [hh ⟨_, _, rfl⟩]
  · rename_i ob off
    simp only
    rw [h ob (by simp [SV.avoids])]
  · rename_i ob i sz off
    simp only
    rw [h ob (by simp [SV.avoids])]

theorem lstore_congr {t : TypeId} {x y : SV} (h : ∀ ob, x.avoids ob = false → obj ob = obj' ob) (h' : ∀ ob, y.avoids ob = false → obj ob = obj' ob) (hh : (∃ e s, x = .e e s) → obj HID = obj' HID) : lstore P t x y obj ix = lstore P t x y obj' ix := by
  unfold lstore
  have hc : ∀ agg n, y.cellsOf agg n ix obj = y.cellsOf agg n ix obj' := fun agg n => cellsOf_congr h'
  cases x <;> try rfl
  · rw [hh ⟨_, _, rfl⟩]
  · rename_i ob off
    simp only [hc]
    rw [h ob (by simp [SV.avoids])]
  · rename_i ob i sz off
    simp only
    rw [h ob (by simp [SV.avoids])]

theorem lindexAddr_congr {t : TypeId} {x i : SV} (h : ∀ ob, x.avoids ob = false → obj ob = obj' ob) : lindexAddr P t x i obj ix = lindexAddr P t x i obj' ix := by
  unfold lindexAddr
  cases x <;> try rfl
  rename_i ob
  simp only
  rw [h ob (by simp [SV.avoids])]

theorem llen_congr {t : TypeId} {x : SV} (h : ∀ ob, x.avoids ob = false → obj ob = obj' ob) : llen P t x obj ix = llen P t x obj' ix := by
  unfold llen
  cases x <;> try rfl
  rename_i ob
  simp only
  rw [h ob (by simp [SV.avoids])]

theorem lbox_congr {t : TypeId} {x : SV} {dst : Option Tmp} (h : ∀ ob, x.avoids ob = false → obj ob = obj' ob) : lbox P t x dst obj ix = lbox P t x dst obj' ix := by
  unfold lbox
  split
  · rw [cellsOf_congr h]
  · rfl

theorem lstep_congr {o : Oper} {opv opv' : List (E × Bool) → Operand → SV} {act : List (E × Bool)} (hv : ∀ act x, x ∈ o.op.operands → opv' act x = opv act x)
    (ho : ∀ x ob, x ∈ o.op.operands → (opv act x).avoids ob = false → obj ob = obj' ob) {m : Operand → Bool} {cf : Option StCfg} (hM : ∀ act x, x ∈ o.op.operands → (∃ e s, opv act x = .e e s) → m x = true) (hH : usesHr o m cf = true → obj HID = obj' HID) : lstep P o opv' act obj' ix = lstep P o opv act obj ix := by
  unfold lstep
  unfold usesHr at hH
  generalize hop : o.op = op at *
  cases op <;> try rfl
  all_goals try simp only [Op.operands] at hv ho hM
  case move x => simp [hv]
  case assign x => simp [hv]
  case pick c a b => simp [hv]
  case box t x => simp only; rw [hv act x (by simp), lbox_congr (fun ob h => ho x ob (by simp) h)]
  case load t x => simp only; rw [hv act x (by simp), lload_congr (fun ob h => ho x ob (by simp) h) (fun he => hH (hM act x (by simp) he))]
  case store t x y => simp only; rw [hv act x (by simp), hv act y (by simp), lstore_congr (fun ob h => ho x ob (by simp) h) (fun ob h => ho y ob (by simp) h) (fun he => hH (hM act x (by simp) he))]
  case nilCheck x => simp [hv]
  case binOp => simp [hv]
  case unOp => simp [hv]
  case convert => simp [hv]
  case fieldAddr => simp [hv]
  case indexAddr t x i => simp only; rw [hv act x (by simp), hv act i (by simp), lindexAddr_congr (fun ob h => ho x ob (by simp) h)]
  case extract => simp [hv]
  case call c =>
    obtain ⟨callee, args, ts⟩ := c
    simp only
    have hargs : ∀ x, x ∈ args → x ∈ (Call.mk callee args ts).operands := by
      intro x hx
      unfold Call.operands
      simp
      cases callee <;> simp [hx]
    split
    · split
      · rename_i x t hx ht
        have : x ∈ args := by
          have : x ∈ args.toList := by rw [hx]; simp
          simpa using this
        rw [hv act x (hargs x this), llen_congr (fun ob h => ho x ob (hargs x this) h)]
      · rfl
    · rename_i f
      have hf : f ∈ (Call.mk (.value f) args ts).operands := by
        unfold Call.operands
        simp
      rw [hv act f hf]
      have : args.toList.map (opv' act) = args.toList.map (opv act) := List.map_congr_left fun x hx => hv act x (hargs x (by simpa using hx))
      rw [this]
      have hHH := hH rfl
      unfold lcall lcallv
      rw [hHH]
    · rfl
  case makeFunc fn first caps =>
    simp only
    have h1 : first.toList.map (opv' act) = first.toList.map (opv act) := List.map_congr_left fun x hx => hv act x (by simp; exact .inl (by simpa using hx))
    have h2 : caps.toList.map (opv' act) = caps.toList.map (opv act) := List.map_congr_left fun x hx => hv act x (by simp; exact .inr (by simpa using hx))
    rw [h1, h2]

theorem lappend_congr {t : TypeId} {s x : SV} {dst : Option Tmp} (h : ∀ ob, s.avoids ob = false → obj ob = obj' ob) : lappend P t s x dst obj ix = lappend P t s x dst obj' ix := by
  unfold lappend
  split
  · rename_i k _
    rw [h k (by simp [SV.avoids])]
  · rfl

theorem lnew_congr {o : Oper} {opv opv' : Operand → SV} (hv : ∀ x, x ∈ o.op.operands → opv' x = opv x) (ho : ∀ x ob, x ∈ o.op.operands → (opv x).avoids ob = false → obj ob = obj' ob) : lnew P o opv' obj' ix = lnew P o opv obj ix := by
  unfold lnew
  generalize hop : o.op = op at *
  cases op <;> try rfl
  case buildSlice t len parts =>
    simp only
    have : parts.toList.map (fun p => opv' p.2) = parts.toList.map fun p => opv p.2 := List.map_congr_left fun p hp => hv p.2 (by simp only [Op.operands, List.mem_toArray, List.mem_map]; exact ⟨p, hp, rfl⟩)
    unfold llit
    rw [this]
  case makeSlice t n c => simp only; rw [hv n (by simp [Op.operands]), hv c (by simp [Op.operands])]
  case call c =>
    obtain ⟨callee, args, ts⟩ := c
    simp only [Op.operands] at hv ho ⊢
    have hargs : ∀ x, x ∈ args → x ∈ (Call.mk callee args ts).operands := by
      intro x hx
      unfold Call.operands
      simp
      cases callee <;> simp [hx]
    split
    · split
      · rename_i s x t t' hx ht
        have h1 : s ∈ args := by
          have : s ∈ args.toList := by rw [hx]; simp
          simpa using this
        have h2 : x ∈ args := by
          have : x ∈ args.toList := by rw [hx]; simp
          simpa using this
        rw [hv s (hargs s h1), hv x (hargs x h2), lappend_congr (fun ob h => ho s ob (hargs s h1) h)]
      · rfl
    · rfl

theorem nilsOf_congr (hC : cfOf obj = cfOf obj') : nilsOf obj' = nilsOf obj := by unfold nilsOf; rw [hC]

theorem lpure2_congr {nz : Bool} {o : Oper} {opv opv' : Operand → SV} (hv : ∀ x, x ∈ o.op.operands → opv' x = opv x) : lpure2 P nz o opv' ix = lpure2 P nz o opv ix := by
  unfold lpure2
  split
  · rename_i t parts ho
    have : parts.toList.map (fun p => (p.1, opv' p.2)) = parts.toList.map fun p => (p.1, opv p.2) := List.map_congr_left fun p hp => by
      rw [hv p.2 (by rw [ho]; simp only [Op.operands, List.mem_toArray, List.mem_map]; exact ⟨p, hp, rfl⟩)]
    unfold lbuild
    rw [this]
  · exact lpure_congr hv

theorem ldat_congr {o : Oper} {opv opv' : Operand → SV} {act : List (E × Bool)} (hv : ∀ x, x ∈ o.op.operands → opv' x = opv x) (hC : cfOf obj = cfOf obj') : ldat P o opv' act obj' ix = ldat P o opv act obj ix := by
  unfold ldat
  generalize hop : o.op = op at *
  cases op <;> try (simp; done)
  case box t x =>
    have h2 := hv x (by simp [Op.operands])
    simp only [isDat, hC, h2]
  case buildSlice t len parts =>
    have : parts.toList.map (fun p => opv' p.2) = parts.toList.map fun p => opv p.2 := List.map_congr_left fun p hp => hv p.2 (by simp only [Op.operands, List.mem_toArray, List.mem_map]; exact ⟨p, hp, rfl⟩)
    simp only [isDat, hC, llit, this]

theorem cfOf_eq (obj : Nat → Option SObj) : cfOf obj = cfO (obj HID) := by
  unfold cfOf cfO
  split <;> rfl

theorem lpubC_congr {o : Oper} {opv opv' : Operand → SV} {hO : Option SObj} (hv : ∀ x, x ∈ o.op.operands → opv' x = opv x) : lpubC P o opv' hO ix = lpubC P o opv hO ix := by
  unfold lpubC
  generalize hop : o.op = op at *
  cases op <;> try rfl
  case box t x => simp only [hv x (by simp [Op.operands])]
  case makeSlice t n c => simp only [hv n (by simp [Op.operands]), hv c (by simp [Op.operands])]
  case call c =>
    obtain ⟨callee, args, ts⟩ := c
    have hargs : ∀ x, x ∈ args.toList → opv' x = opv x := fun x hx => hv x (by
      have : x ∈ args := by simpa using hx
      simp only [Op.operands, Call.operands]
      simp
      cases callee <;> simp [this])
    simp only
    split
    · split
      · rfl
      · split
        · split
          · rename_i s x t t' hx _
            rw [hargs s (by rw [hx]; simp), hargs x (by rw [hx]; simp)]
          · rfl
        · rfl
    · rfl

theorem lpubC_store {o : Oper} {opv : Operand → SV} {hO hO' : Option SObj} {m : Operand → Bool} (hC : cfO hO = cfO hO') (hM : ∀ x, x ∈ o.op.operands → (∃ e s, opv x = .e e s) → m x = true) (hH : usesHr o m (cfO hO) = true → hO = hO') : lpubC P o opv hO' ix = lpubC P o opv hO ix := by
  have other : ∀ {hO : Option SObj}, cfO hO = none → lpubC P o opv hO ix = none := by
    intro hO h
    unfold lpubC
    split
    · simp [cfO] at h
    · rfl
  cases hc : cfO hO with
  | none => rw [other hc, other (hC ▸ hc)]
  | some cf =>
    obtain ⟨h1, rfl⟩ : ∃ h1, hO = some (.store cf h1) := by
      unfold cfO at hc
      split at hc
      · cases hc; exact ⟨_, rfl⟩
      · cases hc
    obtain ⟨h2, rfl⟩ : ∃ h2, hO' = some (.store cf h2) := by
      rw [hc] at hC
      unfold cfO at hC
      split at hC
      · cases hC; exact ⟨_, rfl⟩
      · cases hC
    simp only [cfO] at hH
    unfold lpubC
    unfold usesHr at hH
    generalize hop : o.op = op at *
    cases hd : o.dst with
    | none => rfl
    | some d =>
      rw [hd] at hH
      have pub : ∀ {α : Type} {A B : Option α}, (cf.pubs.contains d = true → (some (SObj.store cf h1) = some (SObj.store cf h2))) → (h1 = h2 → A = B) → (if cf.pubs.contains d = true then A else none) = (if cf.pubs.contains d = true then B else none) := by
        intro α A B h3 h4
        split
        · rename_i hp
          have := h3 hp
          simp only [Option.some.injEq, SObj.store.injEq, true_and] at this
          exact h4 this
        · rfl
      by_cases hro : cf.ro = true
      · simp only [hro, if_true]
      simp only [hro]
      cases op <;> try rfl
      case alloc t => exact pub hH fun e => by subst e; rfl
      case box t x => exact pub hH fun e => by subst e; rfl
      case makeSlice t n c => exact pub hH fun e => by subst e; rfl
      case call c =>
        obtain ⟨callee, args, ts⟩ := c
        cases callee <;> try rfl
        rename_i b
        cases b <;> try rfl
        simp only at hH ⊢
        have key : ∀ s r, args.toList = s :: r → (∃ e q, opv s = .e e q) → h1 = h2 := by
          intro s r hx he
          have hm : m s = true := hM s (by
            have : s ∈ args := by
              have : s ∈ args.toList := by rw [hx]; simp
              simpa using this
            simp only [Op.operands, Call.operands]
            simp [this]) he
          rw [hx] at hH
          have := hH hm
          simpa using this
        clear hH
        cases hx : args.toList with
        | nil => rfl
        | cons s r =>
          have key := key s r hx
          cases hs : opv s with
          | e e q =>
            have := key ⟨_, _, hs⟩
            subst this
            rfl
          | _ =>
            cases r with
            | nil => rfl
            | cons x r =>
              cases r with
              | cons _ _ => rfl
              | nil =>
                cases ht : ts.toList with
                | nil => rfl
                | cons t q =>
                  cases q with
                  | nil => rfl
                  | cons t' q =>
                    cases q with
                    | cons _ _ => rfl
                    | nil => simp only [hs]

theorem lpub_congr {o : Oper} {opv opv' : Operand → SV} (hv : ∀ x, x ∈ o.op.operands → opv' x = opv x) {m : Operand → Bool} (hM : ∀ x, x ∈ o.op.operands → (∃ e s, opv x = .e e s) → m x = true) (hC : cfOf obj = cfOf obj') (hH : usesHr o m (cfOf obj) = true → obj HID = obj' HID) : lpub P o opv' obj' ix = lpub P o opv obj ix := by
  unfold lpub
  split
  · rw [lpubC_congr hv]
    rw [cfOf_eq, cfOf_eq] at hC
    rw [cfOf_eq] at hH
    exact lpubC_store hC hM hH
  · rfl

theorem lmap_congr {o : Oper} {opv opv' : Operand → SV} (hv : ∀ x, x ∈ o.op.operands → opv' x = opv x) {m : Operand → Bool} {cf : Option StCfg} (hC : cfOf obj = cfOf obj') (hH : usesHr o m cf = true → obj HID = obj' HID) : lmap P o opv' obj' ix = lmap P o opv obj ix := by
  unfold lmap
  split
  · rename_i h
    have none2 : ∀ {hO hO' : Option SObj}, cfO hO = cfO hO' → (∀ cf h, hO = some (.store cf h) → ∀ h', lmapC P o opv' (some (.store cf h')) ix = lmapC P o opv (some (.store cf h)) ix) → lmapC P o opv' hO' ix = lmapC P o opv hO ix := by
      intro hO hO' hc hs
      cases hcf : cfO hO with
      | none =>
        have other : ∀ {opv : Operand → SV} {hO : Option SObj}, cfO hO = none → lmapC P o opv hO ix = none := by
          intro opv hO h
          unfold lmapC
          split
          · simp [cfO] at h
          · rfl
        rw [other hcf, other (hc ▸ hcf)]
      | some cf =>
        obtain ⟨h1, rfl⟩ : ∃ h1, hO = some (.store cf h1) := by
          unfold cfO at hcf
          split at hcf
          · cases hcf; exact ⟨_, rfl⟩
          · cases hcf
        obtain ⟨h2, rfl⟩ : ∃ h2, hO' = some (.store cf h2) := by
          rw [hcf] at hc
          unfold cfO at hc
          split at hc
          · cases hc; exact ⟨_, rfl⟩
          · cases hc
        exact hs cf h1 rfl h2
    have same : usesHr o m cf = true → lmapC P o opv' (obj' HID) ix = lmapC P o opv (obj HID) ix := by
      intro hu
      rw [hH hu]
      unfold lmapC
      generalize hop : o.op = op at *
      cases op <;> try rfl
      case mapUpdate t m k x => simp only [hv m (by simp [Op.operands]), hv k (by simp [Op.operands]), hv x (by simp [Op.operands])]
      case insert t m k x => simp only [hv m (by simp [Op.operands]), hv k (by simp [Op.operands]), hv x (by simp [Op.operands])]
      case makeMap t r => cases r <;> rfl
      case lookup t m k ok => simp only [hv m (by simp [Op.operands]), hv k (by simp [Op.operands])]
    rw [cfOf_eq, cfOf_eq] at hC
    cases hop : o.op
    case makeMap => exact same (by unfold usesHr; rw [hop])
    case mapUpdate => exact same (by unfold usesHr; rw [hop])
    case insert => exact same (by unfold usesHr; rw [hop])
    case lookup => exact same (by unfold usesHr; rw [hop])
    all_goals exact none2 hC fun cf h _ h' => by unfold lmapC; rw [hop]
  · rfl

theorem estep_congr {o : Oper} {opv opv' : List (E × Bool) → Operand → SV} {act : List (E × Bool)} (hv : ∀ act x, x ∈ o.op.operands → opv' act x = opv act x)
    (ho : ∀ act x ob, x ∈ o.op.operands → (opv act x).avoids ob = false → obj ob = obj' ob) {m : Operand → Bool} (hM : ∀ act x, x ∈ o.op.operands → (∃ e s, opv act x = .e e s) → m x = true) (hC : cfOf obj = cfOf obj') (hH : usesHr o m (cfOf obj) = true → obj HID = obj' HID) : estep P o opv' act obj' ix = estep P o opv act obj ix := by
  unfold estep
  rw [ldat_congr (hv act) hC, lpub_congr (hv []) (hM []) hC hH, lmap_congr (hv []) hC hH, lnew_congr (hv []) (ho []), nilsOf_congr hC, lpure2_congr (hv act), lstep_congr hv (ho act) hM hH]

end congr

end Go.Am
