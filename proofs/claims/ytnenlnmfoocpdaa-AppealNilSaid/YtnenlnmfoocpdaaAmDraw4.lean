/-
  A region whose order is drawn: every order leads to the state of the text's order.
-/
import Derived.Test.YtnenlnmfoocpdaaAmDraw3
set_option linter.unusedSimpArgs false
set_option linter.unusedVariables false
namespace Go.Am

section
variable {P : Program} {ops : Array Oper} {R : List Rec} {σ : SState} {w0 : World} {X : Ent} {env : List D}

/-- what is known of each operation -/
structure Facts (P : Program) (ops : Array Oper) (R : List Rec) (σ : SState) (env : List D) (i : Nat) (o : Oper) (r : Rec) : Prop where
  at_ : R[i]? = some r
  eff : reff P ops o (lex ops R σ i) r.ix = some r.eff
  seen : r.seen = seenOf ops o (lex ops R σ i)
  bind : BindOk P env r.ix r.eff.bind
  ix : r.ix ≤ env.length
  alt : ∃ ys, altOk P ops R σ (masks ops.toList []) i = some ys ∧ ∀ y, y ∈ ys → ∃ d, y.eval env = some d

theorem orderOk_at (h : orderOk ops R σ = true) {i : Nat} {o : Oper} {r : Rec} (ho : ops[i]? = some o) (hr : R[i]? = some r) :
    (∀ e, e ∈ o.after → Region.binds .any e = true → e.on < i) ∧ dstOk σ o = true ∧ (isNew o = true → ∀ u, r.eff.upd = some u → u.1 = HID ∨ freshAt σ u.1) ∧
    ∀ (j : Nat) (oj : Oper) (rj : Rec), j < i → ops[j]? = some oj → R[j]? = some rj → (conf ops oj o rj r = true → softP ops oj o rj r = false → ((masks ops.toList []).getD i 0).testBit j = true) ∧ (isNew o = true → ∀ u, r.eff.upd = some u → u.1 = HID ∨ rj.touches u.1 = false) := by
  have hi := (Array.getElem?_eq_some_iff.1 ho).1
  unfold orderOk at h
  rw [Bool.and_eq_true] at h
  replace h := h.2
  have h := List.all_eq_true.1 h i (List.mem_range.2 hi)
  unfold opOk at h
  rw [ho, hr] at h
  simp only [Bool.and_eq_true, List.all_eq_true, List.mem_range] at h
  obtain ⟨⟨⟨h1, h2⟩, h3⟩, h4⟩ := h
  refine ⟨fun e he hb => ?_, h2, fun hn u hu => ?_, fun j oj rj hj hoj hrj => ?_⟩
  · have := Array.all_eq_true'.1 h1 e he
    simpa [hb] using this
  · rw [hn, hu] at h3
    simpa [freshAt] using h3
  · have := h4 j hj
    rw [hoj, hrj] at this
    simp only [pairOk, Bool.and_eq_true, Bool.or_eq_true, Bool.not_eq_true'] at this
    refine ⟨fun hc hs => by rw [hc, hs] at this; simpa using this.1, fun hn u hu => ?_⟩
    have := this.2
    rw [hn, hu] at this
    simpa using this

theorem conf_read {oj oi : Oper} {rj ri : Rec} {t : Tmp} (hd : oj.dst = some t) (ht : t ∈ oi.looksAt ops) : conf ops oj oi rj ri = true := by
  have : oj.apart ops oi = false := by
    rw [← Bool.not_eq_true]
    intro h
    exact (Oper.apart_spec h).1 t hd ht
  simp [conf, this]

theorem conf_read' {oj oi : Oper} {rj ri : Rec} {t : Tmp} (hd : oi.dst = some t) (ht : t ∈ oj.looksAt ops) : conf ops oj oi rj ri = true := by
  have : oj.apart ops oi = false := by
    rw [← Bool.not_eq_true]
    intro h
    exact (Oper.apart_spec h).2.2 t hd ht
  simp [conf, this]

theorem conf_dst {oj oi : Oper} {rj ri : Rec} {t : Tmp} (hd : oj.dst = some t) (ht : oi.dst = some t) : conf ops oj oi rj ri = true := by
  have : oj.apart ops oi = false := by
    rw [← Bool.not_eq_true]
    intro h
    exact (Oper.apart_spec h).2.1 t hd ht
  simp [conf, this]

theorem conf_upd {oj oi : Oper} {rj ri : Rec} {ob : Nat} (hu : ob ∈ rj.eff.targets) (ht : ri.touches ob = true) : conf ops oj oi rj ri = true := by
  have : rj.eff.targets.any ri.touches = true := List.any_eq_true.2 ⟨ob, hu, ht⟩
  simp [conf, this]

theorem conf_upd' {oj oi : Oper} {rj ri : Rec} {ob : Nat} (hu : ob ∈ ri.eff.targets) (ht : rj.touches ob = true) : conf ops oj oi rj ri = true := by
  have : ri.eff.targets.any rj.touches = true := List.any_eq_true.2 ⟨ob, hu, ht⟩
  simp [conf, this]

theorem touches_seen {r : Rec} {sv : SV} {ob : Nat} (h : sv ∈ r.seen) (ha : sv.avoids ob = false) : r.touches ob = true := by
  have : r.seen.any (fun sv => !sv.avoids ob) = true := List.any_eq_true.2 ⟨sv, h, by simp [ha]⟩
  simp [Rec.touches, this]

theorem touches_upd {r : Rec} {ob : Nat} (h : ob ∈ r.eff.targets) : r.touches ob = true := by
  simp [Rec.touches, h]

theorem upd_target {e : Eff} {u : Nat × SObj} (h : e.upd = some u) : u.1 ∈ e.targets := by simp [Eff.targets, h]

theorem dstAt_some {j : Nat} {t : Tmp} (h : dstAt ops j = some t) : ∃ o, ops[j]? = some o ∧ o.dst = some t := Option.bind_eq_some_iff.1 h

theorem order_mask {D : Nat → Bool} (hD : Closed ops D) {i : Nat} {o : Oper} (ho : ops[i]? = some o) (hi : D i = false)
    (ha : ∀ e, e ∈ o.after → Region.binds .any e = true → D e.on = true) {j : Nat} {oj : Oper} (hoj : ops[j]? = some oj) (h1 : j < i → ((masks ops.toList []).getD i 0).testBit j = true) (h2 : i < j → ((masks ops.toList []).getD j 0).testBit i = true) : D j = decide (j < i) := by
  rcases Nat.lt_trichotomy j i with h | h | h
  · rw [masks_spec hD ho ha (h1 h)]
    simp [h]
  · subst h; rw [hi]; simp
  · have hm := h2 h
    have : D j = false := by
      rw [← Bool.not_eq_true]
      intro hDj
      have := masks_spec hD hoj (hD j oj hDj hoj) hm
      rw [hi] at this
      cases this
    rw [this]; simp; omega

/-- Those that must come before are done, those that must come after are not. -/
theorem order_done (hok : orderOk ops R σ = true) {D : Nat → Bool} (hD : Closed ops D) {i : Nat} {o : Oper} {r : Rec} (ho : ops[i]? = some o) (hr : R[i]? = some r) (hi : D i = false)
    (ha : ∀ e, e ∈ o.after → Region.binds .any e = true → D e.on = true) {j : Nat} {oj : Oper} {rj : Rec} (hoj : ops[j]? = some oj) (hrj : R[j]? = some rj) (hc : (conf ops oj o rj r = true ∧ softP ops oj o rj r = false) ∧ conf ops o oj r rj = true ∧ softP ops o oj r rj = false) : D j = decide (j < i) :=
  order_mask hD ho hi ha hoj (fun h => (orderOk_at hok ho hr).2.2.2 j oj rj h hoj hrj |>.1 hc.1.1 hc.1.2) fun h => (orderOk_at hok hoj hrj).2.2.2 i o r h ho hr |>.1 hc.2.1 hc.2.2

theorem soft_apart {oj oi : Oper} {rj ri : Rec} (h : oj.apart ops oi = false) : softP ops oj oi rj ri = false := by simp [softP, h]

theorem apart_read {oj oi : Oper} {t : Tmp} (hd : oj.dst = some t) (ht : t ∈ oi.looksAt ops) : oj.apart ops oi = false := by
  rw [← Bool.not_eq_true]
  intro h
  exact (Oper.apart_spec h).1 t hd ht

theorem apart_read' {oj oi : Oper} {t : Tmp} (hd : oi.dst = some t) (ht : t ∈ oj.looksAt ops) : oj.apart ops oi = false := by
  rw [← Bool.not_eq_true]
  intro h
  exact (Oper.apart_spec h).2.2 t hd ht

theorem apart_dst {oj oi : Oper} {t : Tmp} (hd : oj.dst = some t) (ht : oi.dst = some t) : oj.apart ops oi = false := by
  rw [← Bool.not_eq_true]
  intro h
  exact (Oper.apart_spec h).2.1 t hd ht

/-- a pair of which j writes an object other than the store is not soft -/
theorem soft_ne {oj oi : Oper} {rj ri : Rec} {ob : Nat} (h : ob ∈ rj.eff.targets) (hne : ob ≠ HID) : softP ops oj oi rj ri = false ∧ softP ops oi oj ri rj = false := by
  have h1 : rj.reader = false := by
    rw [← Bool.not_eq_true]; intro hr
    rw [reader_targets hr] at h; cases h
  have h2 : rj.storer = false := by
    rw [← Bool.not_eq_true]; intro hr
    rw [storer_targets hr] at h; simp at h; exact hne h
  simp [softP, h1, h2]

theorem soft_two {oj oi : Oper} {rj ri : Rec} {ob ob' : Nat} (h : ob ∈ rj.eff.targets) (h' : ob' ∈ ri.eff.targets) : softP ops oj oi rj ri = false ∧ softP ops oi oj ri rj = false := by
  have h1 : rj.reader = false := by
    rw [← Bool.not_eq_true]; intro hr
    rw [reader_targets hr] at h; cases h
  have h2 : ri.reader = false := by
    rw [← Bool.not_eq_true]; intro hr
    rw [reader_targets hr] at h'; cases h'
  simp [softP, h1, h2]

theorem mem_softs {ms : List Nat} {i j : Nat} {rj : Rec} (hj : j < ops.size) (hrj : R[j]? = some rj) (hs : rj.storer = true) (hne : j ≠ i) (h : j ∉ softs ops R ms i) : (j < i → (ms.getD i 0).testBit j = true) ∧ (i < j → (ms.getD j 0).testBit i = true) := by
  unfold softs at h
  rw [List.mem_filter] at h
  simp only [List.mem_range, hj, true_and, hrj, hs, Bool.true_and, Bool.and_eq_true, Bool.not_eq_true', decide_eq_true_eq, Bool.and_eq_false_iff, decide_eq_false_iff_not] at h
  refine ⟨fun hlt => Classical.byContradiction fun hb => h ⟨⟨.inr (by simpa using hb), .inl (by omega)⟩, hne⟩, fun hlt => Classical.byContradiction fun hb => h ⟨⟨.inl (by omega), .inr (by simpa using hb)⟩, hne⟩⟩

theorem wanted_step {D : Nat → Bool} (hok : orderOk ops R σ = true) (hF : ∀ (i : Nat) (o : Oper), ops[i]? = some o → ∃ r, Facts P ops R σ env i o r) (hD : Closed ops D) {i : Nat} {o : Oper} (ho : ops[i]? = some o) (hi : D i = false)
    (ha : ∀ e, e ∈ o.after → Region.binds .any e = true → D e.on = true) : ∃ r : Rec, BindOk P env r.ix r.eff.bind ∧ r.ix ≤ env.length ∧ rstep P ops o (runTo ops R D σ ops.size) r.ix = some (runTo ops R (fun j => D j || j == i) σ ops.size, r.eff.bind) := by
  obtain ⟨r, f⟩ := hF i o ho
  have hin := (Array.getElem?_eq_some_iff.1 ho).1
  obtain ⟨_, hdst, hfr, hpair⟩ := orderOk_at hok ho f.at_
  have hrec : ∀ (j : Nat), j < ops.size → ∃ oj rj, ops[j]? = some oj ∧ R[j]? = some rj := fun j hj => by
    obtain ⟨rj, fj⟩ := hF j ops[j] (Array.getElem?_eq_getElem hj)
    exact ⟨_, rj, Array.getElem?_eq_getElem hj, fj.at_⟩
  have hdone := fun {j : Nat} {oj : Oper} {rj : Rec} => order_done (j := j) (oj := oj) (rj := rj) hok hD ho f.at_ hi ha
  -- the slots that it looks at
  have htmp : ∀ t, t ∈ o.looksAt ops → (runTo ops R D σ ops.size).tmp t = (lex ops R σ i).tmp t := by
    intro t ht
    refine runTo_tmp_at (Nat.le_of_lt hin) fun j hj hjt => ?_
    obtain ⟨oj, hoj, hdj⟩ := dstAt_some hjt
    obtain ⟨rj, fj⟩ := hF j oj hoj
    exact hdone hoj fj.at_ ⟨⟨conf_read hdj ht, soft_apart (apart_read hdj ht)⟩, conf_read' hdj ht, soft_apart (apart_read' hdj ht)⟩
  -- the objects that are not the store
  have hobj : ∀ ob, ob ≠ HID → r.touches ob = true → (runTo ops R D σ ops.size).obj ob = (lex ops R σ i).obj ob := by
    intro ob hne htouch
    refine runTo_obj_at (Nat.le_of_lt hin) fun j hj hju => ?_
    obtain ⟨oj, rj, hoj, hrj⟩ := hrec j hj
    have huj : ob ∈ rj.eff.targets := by simpa [effAt, hrj] using hju
    obtain ⟨hs1, hs2⟩ := soft_ne (ops := ops) (oj := oj) (oi := o) (ri := r) huj hne
    exact hdone hoj hrj ⟨⟨conf_upd huj htouch, hs1⟩, conf_upd' huj htouch, hs2⟩
  have htouchT : ∀ t ob, t ∈ o.looksAt ops → ((lex ops R σ i).tmp t).avoids ob = false → r.touches ob = true := fun t ob ht hav => touches_seen (sv := (lex ops R σ i).tmp t) (by rw [f.seen]; exact List.mem_append.2 (.inl (List.mem_map_of_mem ht))) hav
  have htouchH : usesHr o (fun x => ((lex ops R σ i).opd x).mayE) (cfOf (lex ops R σ i).obj) = true → r.touches HID = true := fun hu => touches_seen (sv := .slc HID) (by rw [f.seen]; refine List.mem_append.2 (.inr ?_); rw [hu]; simp) (by simp [SV.avoids])
  have hkept : cfKept R σ = true := by
    unfold orderOk at hok
    rw [Bool.and_eq_true] at hok
    exact hok.1
  have hC : cfOf (runTo ops R D σ ops.size).obj = cfOf (lex ops R σ i).obj := (runTo_cf hkept _).trans (runTo_cf hkept _).symm
  have hadd0 : runTo ops R (fun j => D j || j == i) σ ops.size = (runTo ops R D σ ops.size).app o.dst r.eff := by
    rw [runTo_add hi ops.size hin fun j hj hij hDj => ?_]
    · have h1 : dstAt ops i = o.dst := by simp [dstAt, ho]
      have h2 : effAt R i = r.eff := by simp [effAt, f.at_]
      rw [h1, h2]
    · obtain ⟨oj, rj, hoj, hrj⟩ := hrec j hj
      have hno : ¬ ((conf ops oj o rj r = true ∧ softP ops oj o rj r = false) ∧ conf ops o oj r rj = true ∧ softP ops o oj r rj = false) := by
        intro hc
        have := hdone hoj hrj hc
        rw [hDj] at this
        simp at this
        omega
      refine ⟨fun t h1 h2 => hno ?_, fun ob h1 h2 => hno ?_⟩
      · obtain ⟨o1, ho1, hd1⟩ := dstAt_some h1
        obtain ⟨o2, ho2, hd2⟩ := dstAt_some h2
        rw [ho] at ho1; rw [hoj] at ho2
        cases ho1; cases ho2
        exact ⟨⟨conf_dst hd2 hd1, soft_apart (apart_dst hd2 hd1)⟩, conf_dst hd1 hd2, soft_apart (apart_dst hd1 hd2)⟩
      · have hu1 : ob ∈ r.eff.targets := by simpa [effAt, f.at_] using h1
        have hu2 : ob ∈ rj.eff.targets := by simpa [effAt, hrj] using h2
        obtain ⟨hs1, hs2⟩ := soft_two (ops := ops) (oj := oj) (oi := o) hu2 hu1
        exact ⟨⟨conf_upd' hu1 (touches_upd hu2), hs1⟩, conf_upd hu1 (touches_upd hu2), hs2⟩
  -- what it does there
  have fin : ∀ e : Eff, reff P ops o (runTo ops R D σ ops.size) r.ix = some e → BindOk P env r.ix e.bind → e.val = r.eff.val → e.upd = r.eff.upd → e.del = r.eff.del → ∃ r : Rec, BindOk P env r.ix r.eff.bind ∧ r.ix ≤ env.length ∧ rstep P ops o (runTo ops R D σ ops.size) r.ix = some (runTo ops R (fun j => D j || j == i) σ ops.size, r.eff.bind) := by
    intro e heff hbind h1 h2 h3
    refine ⟨⟨e, [], r.ix⟩, hbind, f.ix, ?_⟩
    have hadd : runTo ops R (fun j => D j || j == i) σ ops.size = (runTo ops R D σ ops.size).app o.dst e := by
      rw [hadd0]
      simp only [SState.app, h1, h2, h3]
    rw [hadd]
    refine rstep_of_reff heff ?_ fun hn u hu => ?_
    · unfold dstOk at hdst ⊢
      rw [(runTo_len ..).1]
      exact hdst
    · have hu := h2 ▸ hu
      rcases hfr hn u hu with hH1 | hfr
      · exact .inl hH1
      by_cases hne : u.1 = HID
      · exact .inl hne
      refine .inr (runTo_fresh hfr ops.size fun j hj hDj => ?_)
      obtain ⟨oj, rj, hoj, hrj⟩ := hrec j hj
      refine ⟨rj, hrj, ?_⟩
      rcases Nat.lt_trichotomy j i with h | h | h
      · exact ((hpair j oj rj h hoj hrj).2 hn u hu).resolve_left hne
      · subst h; rw [hi] at hDj; cases hDj
      · rw [← Bool.not_eq_true]
        intro ht
        obtain ⟨hs1, hs2⟩ := soft_ne (ops := ops) (oj := o) (oi := oj) (ri := rj) (upd_target hu) hne
        have := hdone hoj hrj ⟨⟨conf_upd' (upd_target hu) ht, hs2⟩, conf_upd (upd_target hu) ht, hs1⟩
        rw [hDj] at this
        simp at this
        omega
  by_cases hkeep : r.touches HID = true → (runTo ops R D σ ops.size).obj HID = (lex ops R σ i).obj HID
  · have heff : reff P ops o (runTo ops R D σ ops.size) r.ix = some r.eff := by
      rw [reff_congr htmp (fun t ob ht hav => ?_) hC (fun hu => hkeep (htouchH hu))]
      · exact f.eff
      · by_cases hne : ob = HID
        · subst hne; exact hkeep (htouchT t _ ht hav)
        · exact hobj ob hne (htouchT t ob ht hav)
    exact fin r.eff heff f.bind rfl rfl rfl
  · -- a writer of the store has another place
    rw [Classical.not_imp] at hkeep
    obtain ⟨htouch, hkeep⟩ := hkeep
    -- a writer of the store: it is where it is in the text, or it is a soft one
    have hw : ∀ j, j < ops.size → HID ∈ (effAt R j).targets → D j = decide (j < i) ∨ (r.reader = true ∧ j ∈ softs ops R (masks ops.toList []) i) := by
      intro j hj hju
      obtain ⟨oj, rj, hoj, hrj⟩ := hrec j hj
      have huj : HID ∈ rj.eff.targets := by simpa [effAt, hrj] using hju
      by_cases hji : j = i
      · subst hji; left; rw [hi]; simp
      by_cases hsoft : r.reader = true ∧ rj.storer = true
      · by_cases hm : j ∈ softs ops R (masks ops.toList []) i
        · exact .inr ⟨hsoft.1, hm⟩
        · obtain ⟨m1, m2⟩ := mem_softs hj hrj hsoft.2 hji hm
          exact .inl (order_mask hD ho hi ha hoj m1 m2)
      · have hnr : rj.reader = false := by
          rw [← Bool.not_eq_true]; intro hr
          rw [reader_targets hr] at huj; cases huj
        have hs : ∀ {o1 o2 : Oper}, softP ops o1 o2 rj r = false ∧ softP ops o2 o1 r rj = false := by
          intro o1 o2
          have : (r.reader && rj.storer) = false := by
            rw [← Bool.not_eq_true, Bool.and_eq_true]; exact hsoft
          simp only [softP, hnr, this, Bool.false_and, Bool.or_false, Bool.and_false, and_self]
        exact .inl (hdone hoj hrj ⟨⟨conf_upd huj htouch, hs.1⟩, conf_upd' huj htouch, hs.2⟩)
    have hsame : (∀ j, j < ops.size → HID ∈ (effAt R j).targets → D j = decide (j < i)) → False := fun h => hkeep (runTo_obj_at (Nat.le_of_lt hin) h)
    have hread : r.reader = true := by
      refine Classical.byContradiction fun hn => hsame fun j hj hju => ?_
      exact (hw j hj hju).resolve_right fun h => hn h.1
    obtain ⟨ys, hys, hev⟩ := f.alt
    unfold altOk at hys
    simp only [ho, f.at_, hread, htouch, Bool.and_self, if_true] at hys
    split at hys
    · rename_i hs
      exact (hsame fun j hj hju => (hw j hj hju).resolve_right fun h => by rw [hs] at h; cases h.2).elim
    · rename_i j0 hs
      have hD0 : D j0 ≠ decide (j0 < i) := by
        intro h
        refine hsame fun j hj hju => (hw j hj hju).elim id fun h' => ?_
        rw [hs] at h'
        have := h'.2
        simp at this
        rw [this]; exact h
      have halt : (runTo ops R D σ ops.size).obj HID = altObj ops R σ i j0 := by
        refine runTo_obj ops.size fun j hj hju => ?_
        by_cases hj0 : j = j0
        · subst hj0
          cases hDj : D j <;> cases hdj : decide (j < i) <;> simp_all
        · have : D j = decide (j < i) := (hw j hj hju).resolve_right fun h => by rw [hs] at h; simp at h; exact hj0 h.2
          show D j = (decide (j < i) != (j == j0))
          rw [this, show (j == j0) = false from by simpa using hj0]
          cases decide (j < i) <;> rfl
      split at hys
      · rename_i e he
        split at hys
        · rename_i hc
          simp only [Bool.and_eq_true, Option.isNone_iff_eq_none] at hc
          have hrd := hread
          unfold Rec.reader at hrd
          simp only [Bool.and_eq_true, Option.isNone_iff_eq_none] at hrd
          have heff : reff P ops o (runTo ops R D σ ops.size) r.ix = some e := by
            rw [← he]
            have hH : ((lex ops R σ i).setObj HID (altObj ops R σ i j0)).obj HID = altObj ops R σ i j0 := by rw [obj_setObj_eq, if_pos (.inl rfl)]
            refine reff_congr (fun t ht => ?_) (fun t ob ht hav => ?_) ?_ fun _ => by rw [hH]; exact halt
            · rw [SState.tmp_setObj]; exact htmp t ht
            · rw [SState.tmp_setObj] at hav
              by_cases hne : ob = HID
              · subst hne; rw [hH]; exact halt
              · rw [obj_setObj_ne (Ne.symm hne)]; exact hobj ob hne (htouchT t ob ht hav)
            · rw [cfOf_eq, cfOf_eq, hH, halt]
          have hb : BindOk P env r.ix e.bind := by
            split at hys
            · rename_i b a hbe hba
              cases hys
              obtain ⟨d, hd⟩ := hev _ (List.mem_singleton_self _)
              have h0 := f.bind
              rw [hba] at h0
              obtain ⟨da, h1, h2⟩ := h0
              rw [hbe]
              simp only [E.eval, h1, Option.bind_some, Option.bind_eq_some_iff] at hd
              obtain ⟨db, h3, h4⟩ := hd
              simp only [Am.D.m4] at h4
              split at h4
              · rename_i hsm
                have := Am.D.same_eq hsm
                subst this
                exact ⟨da, h3, h2⟩
              · cases h4
            · rename_i hbe hba
              rw [hbe]; trivial
            · cases hys
          exact fin e heff hb (SV.same_eq hc.1.1) (hc.1.2.trans hrd.1.symm) (hc.2.trans hrd.2.symm)
        · cases hys
      · cases hys
    · cases hys

abbrev doneOf (listed : Array Bool) : Nat → Bool := fun j => listed.getD j false

theorem countP_drop {p q : Nat → Bool} {i : Nat} : ∀ {l : List Nat}, (∀ j, q j = true → p j = true) → i ∈ l → p i = true → q i = false → l.countP q < l.countP p
  | [], _, h, _, _ => by cases h
  | j :: l, hpq, hm, hp, hq => by
    have hle : l.countP q ≤ l.countP p := List.countP_mono_left fun x _ hx => hpq x hx
    rw [List.countP_cons, List.countP_cons]
    rcases List.mem_cons.1 hm with rfl | hm
    · rw [hp, hq]; simp; omega
    · have ih := countP_drop hpq hm hp hq
      cases hqj : q j with
      | false => cases p j <;> simp <;> omega
      | true => rw [hpq j hqj]; simp; omega

theorem wpAny_draw {rd : Option Nat} {n : Nat} {Q : Exit → Act → World → Prop} (hok : orderOk ops R σ = true) (hF : ∀ (i : Nat) (o : Oper), ops[i]? = some o → ∃ r, Facts P ops R σ env i o r) (hm : σ.mem.length = σ.tmps.length)
    (hsz : ∀ (j d : Nat), (ops[j]?).bind (fun (o : Oper) => o.dst) = some d → d < σ.tmps.length) (hQ : ∀ a' w' ρ', Rep w0 X w' a' (lex ops R σ ops.size) env ρ' → Q .normal a' w') :
    ∀ (fuel : Nat) (listed : Array Bool) (a : Act) (w : World) (ρ : Rho), listed.size = ops.size → Closed ops (doneOf listed) → (List.range ops.size).countP (fun j => !doneOf listed j) ≤ fuel →
      Rep w0 X w a (runTo ops R (doneOf listed) σ ops.size) env ρ → wpAnyIn (FW rd) n P .any ops Q fuel listed a w := by
  -- when nothing is ready, all is done
  have hall : ∀ (listed : Array Bool), listed.size = ops.size → Region.ready .any ops listed = [] → ∀ j, j < ops.size → doneOf listed j = true := by
    intro listed hs hr j
    induction j using Nat.strongRecOn with
    | _ j ih =>
      intro hj
      refine Classical.byContradiction fun hnd => ?_
      have hmem : j ∈ Region.ready .any ops listed := by
        refine mem_ready.2 ⟨?_, ops[j], Array.getElem?_eq_getElem hj, fun e he hb => ?_⟩
        · simp only [doneOf, Array.getD_eq_getD_getElem?, Array.getElem?_eq_getElem (show j < listed.size by omega), Option.getD_some] at hnd ⊢
          simpa using hnd
        · obtain ⟨r, f⟩ := hF j ops[j] (Array.getElem?_eq_getElem hj)
          have := (orderOk_at hok (Array.getElem?_eq_getElem hj) f.at_).1 e he hb
          exact ih e.on this (by omega)
      rw [hr] at hmem
      cases hmem
  have hend : ∀ (listed : Array Bool) (a : Act) (w : World) (ρ : Rho), listed.size = ops.size → Region.ready .any ops listed = [] → Rep w0 X w a (runTo ops R (doneOf listed) σ ops.size) env ρ → Q .normal a w := by
    intro listed a w ρ hs hr hrep
    rw [runTo_congr (D' := fun _ => true) ops.size fun j hj => hall listed hs hr j hj] at hrep
    exact hQ a w ρ hrep
  intro fuel
  induction fuel with
  | zero =>
    intro listed a w ρ hs hD hc hrep
    have hnil : Region.ready .any ops listed = [] := by
      cases hr : Region.ready .any ops listed with
      | nil => rfl
      | cons j l =>
        have hmem : j ∈ Region.ready .any ops listed := by rw [hr]; simp
        obtain ⟨h1, o, ho, _⟩ := mem_ready.1 hmem
        have hj := (Array.getElem?_eq_some_iff.1 ho).1
        have hpos : 0 < (List.range ops.size).countP (fun j => !doneOf listed j) := List.countP_pos_iff.2 ⟨j, List.mem_range.2 hj, by
          simp only [doneOf, Array.getD_eq_getD_getElem?, Array.getElem?_eq_getElem (show j < listed.size by omega), Option.getD_some] at h1 ⊢
          simpa using h1⟩
        omega
    exact ⟨hnil, hend listed a w ρ hs hnil hrep⟩
  | succ fuel ih =>
    intro listed a w ρ hs hD hc hrep
    refine ⟨fun hnil => hend listed a w ρ hs hnil hrep, fun i hi => ?_⟩
    obtain ⟨h1, o, ho, ha⟩ := mem_ready.1 hi
    have hin := (Array.getElem?_eq_some_iff.1 ho).1
    have hil : i < listed.size := by omega
    have hDi : doneOf listed i = false := by
      simp only [doneOf, Array.getD_eq_getD_getElem?, Array.getElem?_eq_getElem hil, Option.getD_some] at h1 ⊢
      exact h1
    have hset : doneOf (listed.setIfInBounds i true) = fun j => doneOf listed j || j == i := by
      funext j
      simp only [doneOf, Array.getD_eq_getD_getElem?, Array.getElem?_setIfInBounds]
      by_cases hij : i = j
      · subst hij; simp [hil]
      · have : (j == i) = false := by simp; omega
        simp [hij, this]
    obtain ⟨r, hbind, hix, hstep⟩ := wanted_step hok hF hD ho hDi ha
    have hD' : Closed ops (doneOf (listed.setIfInBounds i true)) := by
      rw [hset]
      intro k ok hk hok' e he hb
      simp only [Bool.or_eq_true, beq_iff_eq] at hk ⊢
      rcases hk with hk | rfl
      · exact .inl (hD k ok hk hok' e he hb)
      · rw [ho] at hok'; cases hok'
        exact .inl (ha e he hb)
    have hcount : (List.range ops.size).countP (fun j => !doneOf (listed.setIfInBounds i true) j) ≤ fuel := by
      have := countP_drop (p := fun j => !doneOf listed j) (q := fun j => !doneOf (listed.setIfInBounds i true) j) (i := i) (l := List.range ops.size) (fun j hj => by rw [hset] at hj; simp at hj ⊢; exact hj.1) (List.mem_range.2 hin) (by simp [hDi]) (by rw [hset]; simp)
      omega
    have hnext : ∀ a' w' ρ', Rep w0 X w' a' (runTo ops R (fun j => doneOf listed j || j == i) σ ops.size) env ρ' → wpAnyIn (FW rd) n P .any ops Q fuel (listed.setIfInBounds i true) a' w' := by
      intro a' w' ρ' hr'
      exact ih _ a' w' ρ' (by simp [hs]) hD' hcount (by rw [hset]; exact hr')
    have hlen := runTo_len ops R (doneOf listed) σ ops.size
    unfold wpOpIn
    rw [ho]
    simp only
    rcases rstep_sound hrep (by rw [hlen.1, hlen.2]; exact hm) hix (fun j d hjd => by rw [hlen.1]; exact hsz j d hjd) hstep hbind with ⟨hw, hopok⟩ | ⟨hw, hr'⟩
    · rw [if_pos hw]
      refine wpIn_of_upon (rstep_defer hstep) (hopok Q) ?_
      rintro a' w' ⟨ρ', hr'⟩
      exact hnext a' w' ρ' hr'
    · rw [if_neg (by rw [hw]; simp)]
      exact ⟨fun _ _ => trivial, hnext _ _ _ hr'⟩

end
end Go.Am
