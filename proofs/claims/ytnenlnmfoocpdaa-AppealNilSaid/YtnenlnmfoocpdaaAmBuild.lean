/-
  Struct literals.
-/
import Derived.Test.YtnenlnmfoocpdaaAmLit
import Derived.Laws.Tables
set_option linter.unusedSimpArgs false
set_option linter.unusedVariables false
namespace Go.Am

/-- do the cells of the two places lie apart? -/
def apartP (p q : Nat × Nat) : Bool := decide (p.1 + p.2 ≤ q.1) || decide (q.1 + q.2 ≤ p.1)

def Covers (place : Nat → Option (Nat × Nat)) (p : Nat × Value) (k : Nat) : Prop := ∃ off size, place p.1 = some (off, size) ∧ off ≤ k ∧ k < off + size

theorem fill_at {place : Nat → Option (Nat × Nat)} : ∀ (parts : List (Nat × Value)) (cells : Array Value), (∀ p, p ∈ parts → ∃ off, place p.1 = some (off, p.2.cells.size) ∧ off + p.2.cells.size ≤ cells.size) →
    ∃ r, Instr.fill place cells parts = some r ∧ r.size = cells.size ∧ ∀ k, k < cells.size →
      ((∀ p, p ∈ parts → ¬ Covers place p k) → r[k]? = cells[k]?) ∧
      (∀ p off, p ∈ parts → place p.1 = some (off, p.2.cells.size) → off ≤ k → k < off + p.2.cells.size → (∀ q, q ∈ parts → q ≠ p → ¬ Covers place q k) → r[k]? = p.2.cells[k - off]?)
  | [], cells, _ => ⟨cells, rfl, rfl, fun k _ => ⟨fun _ => rfl, fun p off hp => by cases hp⟩⟩
  | (i, v) :: parts, cells, h => by
    obtain ⟨off, hpl, hle⟩ := h (i, v) (by simp)
    obtain ⟨g1, g2⟩ := Great.foldl_set off v.cells.toList 0 cells
    obtain ⟨r, hr, hsz, hk⟩ := fill_at (place := place) parts ((v.cells.toList.zipIdx 0).foldl (fun cs (x : Value × Nat) => cs.setIfInBounds (off + x.2) x.1) cells) (fun p hp => by
      obtain ⟨o, h1, h2⟩ := h p (by simp [hp])
      exact ⟨o, h1, by rw [g1]; exact h2⟩)
    refine ⟨r, ?_, by rw [hsz, g1], fun k hkc => ?_⟩
    · unfold Instr.fill
      simp only [hpl]
      simp only at hle
      rw [if_neg (by simp; omega)]
      rw [← hr]
      congr 1
      rw [← Array.foldl_toList, Array.toList_zipIdx]
    · obtain ⟨hk1, hk2⟩ := hk k (by rw [g1]; exact hkc)
      have hg := g2 k
      simp only [Nat.add_zero, Array.length_toList] at hg
      refine ⟨fun hnc => ?_, fun p o hp hpo h1 h2 hne => ?_⟩
      · rw [hk1 fun p hp => hnc p (by simp [hp]), hg, if_neg fun hc => hnc (i, v) (by simp) ⟨off, _, hpl, hc.1, hc.2.1⟩]
      · rcases List.mem_cons.1 hp with rfl | hp'
        · by_cases hin : (i, v) ∈ parts
          · exact hk2 (i, v) o hin hpo h1 h2 fun q hq hqp => hne q (by simp [hq]) hqp
          · rw [hk1 fun q hq => hne q (by simp [hq]) fun e => hin (e ▸ hq), hg]
            simp only at hpo hpl h2
            rw [hpl] at hpo
            cases hpo
            rw [if_pos ⟨h1, h2, hkc⟩]
            simp
        · exact hk2 p o hp' hpo h1 h2 fun q hq hqp => hne q (by simp [hq]) hqp

/-- one field's cells -/
def unitOf (nz : Bool) (z : Value) (parts : List (Nat × SV)) (i off size : Nat) (agg : Bool) : Option E :=
  match parts.find? (fun p => p.1 == i) with
  | some p => if agg = true ∨ size = 1 then p.2.toE.map (unitE agg size) else none
  | none => (D.ofCells nz ((z.cells.toList.drop off).take size)).bind fun ds => if ds.length = size then some (.const (.agg ds)) else none

def chainE (nz : Bool) (z : Value) (parts : List (Nat × SV)) : Nat → Nat → List ((Nat × Nat) × Bool) → Option E
  | _, off, [] => if off = z.cells.size then some .nil else none
  | i, off, p :: r => if p.1.1 = off then (match unitOf nz z parts i off p.1.2 p.2, chainE nz z parts (i + 1) (off + p.1.2) r with
      | some x, some y => some (.cons x y)
      | _, _ => none) else none

def fieldPlaces (P : Program) (fields : Array Field) : Option (List (Nat × Nat)) := fields.toList.mapM fun f => (P.info? f.type).map fun i => (f.offset, i.size)
def fieldAggs (P : Program) (fields : Array Field) : List Bool := fields.toList.map fun f => (aggT P f.type).getD false

def allApart (pl : List (Nat × Nat)) : Bool := (List.range pl.length).all fun i => (List.range pl.length).all fun j => decide (i = j) || (match pl[i]?, pl[j]? with | some p, some q => apartP p q | _, _ => true)

def lbuild (nz : Bool) (P : Program) (t : TypeId) (parts : List (Nat × Operand)) (opv : Operand → SV) (ix : Nat) : Option LRes :=
  match P.info? t, P.underlying t with
  | some it, some (.struct fields) => match it.zero, fieldPlaces P fields with
    | some z, some pl => match chainE nz z (parts.map fun p => (p.1, opv p.2)) 0 0 (pl.zip (fieldAggs P fields)) with
      | some y => if (parts.map (·.1)).Nodup ∧ parts.all (fun p => decide (p.1 < pl.length)) = true ∧ allApart pl = true then some { val := .e (.sym ix) false, bind := some (.ev y) } else none
      | none => none
    | _, _ => none
  | _, _ => none

section
variable {P : Program} {w w0 : World} {X : Ent} {a : Act} {σ : SState} {env : List D} {ρ : Rho}

theorem chain_spec {nz : Bool} {z : Value} {parts : List (Nat × SV)} (hlen : ∀ i off size agg x u, unitOf nz z parts i off size agg = some x → x.eval env = some u → u.cells.length = size) : ∀ {l : List ((Nat × Nat) × Bool)} {i off : Nat} {y : E} {d : D}, chainE nz z parts i off l = some y → y.eval env = some d →
    ∃ cs, d = .agg cs ∧ off + cs.length = z.cells.size ∧ (∀ (f : Nat) (q : (Nat × Nat) × Bool), l[f]? = some q → q.1.1 + q.1.2 ≤ z.cells.size ∧ ∃ x u, unitOf nz z parts (i + f) q.1.1 q.1.2 q.2 = some x ∧ x.eval env = some u) ∧
    ∀ k, off ≤ k → k < z.cells.size → ∃ f q x u, l[f]? = some q ∧ q.1.1 ≤ k ∧ k < q.1.1 + q.1.2 ∧ unitOf nz z parts (i + f) q.1.1 q.1.2 q.2 = some x ∧ x.eval env = some u ∧ cs[k - off]? = u.cells[k - q.1.1]?
  | [], i, off, y, d, h, hd => by
    simp only [chainE] at h
    split at h
    · rename_i ho
      cases h
      simp only [E.eval, Option.some.injEq] at hd
      subst hd
      exact ⟨[], rfl, by simpa using ho, by simp, fun k h1 h2 => by omega⟩
    · cases h
  | q :: r, i, off, y, d, h, hd => by
    simp only [chainE] at h
    split at h
    · rename_i ho
      split at h
      · rename_i x y' hx hy
        cases h
        simp only [E.eval, Option.bind_eq_some_iff] at hd
        obtain ⟨u, hu, d', hd', hc⟩ := hd
        obtain ⟨cs, rfl, hl, h1, h2⟩ := chain_spec hlen hy hd'
        have hul := hlen _ _ _ _ _ _ hx hu
        have hd2 : d = .agg (u.cells ++ cs) := by
          unfold D.cons at hc
          split at hc <;> first | cases hc; done | (cases hc; rename_i e1 e2; cases e2; rfl) | skip
          all_goals first | (cases hc; rfl) | cases hc
        refine ⟨u.cells ++ cs, hd2, by simp [hul]; omega, fun f q' hq => ?_, fun k hk1 hk2 => ?_⟩
        · cases f with
          | zero => simp at hq; subst hq; rw [ho]; exact ⟨by omega, x, u, hx, hu⟩
          | succ f =>
            obtain ⟨h5, x', u', h3, h4⟩ := h1 f q' (by simpa using hq)
            exact ⟨h5, x', u', by rw [show i + (f + 1) = i + 1 + f from by omega]; exact h3, h4⟩
        · by_cases hk : k < off + q.1.2
          · refine ⟨0, q, x, u, rfl, by omega, by omega, by rw [ho]; exact hx, hu, ?_⟩
            rw [List.getElem?_append_left (by omega), ho]
          · obtain ⟨f, q', x', u', h3, h4, h5, h6, h7, h8⟩ := h2 k (by omega) hk2
            refine ⟨f + 1, q', x', u', by simpa using h3, h4, h5, by rw [show i + (f + 1) = i + 1 + f from by omega]; exact h6, h7, ?_⟩
            rw [List.getElem?_append_right (by omega), hul, show k - off - q.1.2 = k - (off + q.1.2) from by omega]
            exact h8
      · cases h
    · cases h


theorem nodup_fst {α : Type} : ∀ {l : List (Nat × α)} {p q : Nat × α}, (l.map (·.1)).Nodup → p ∈ l → q ∈ l → p.1 = q.1 → p = q
  | [], p, q, _, h, _, _ => by cases h
  | a :: l, p, q, hn, hp, hq, he => by
    simp only [List.map_cons, List.nodup_cons] at hn
    rcases List.mem_cons.1 hp with rfl | hp' <;> rcases List.mem_cons.1 hq with rfl | hq'
    · rfl
    · exact (hn.1 (List.mem_map.2 ⟨q, hq', he.symm⟩)).elim
    · exact (hn.1 (List.mem_map.2 ⟨p, hp', he⟩)).elim
    · exact nodup_fst hn.2 hp' hq' he

theorem allApart_spec {pl : List (Nat × Nat)} (h : allApart pl = true) {i j : Nat} {p q : Nat × Nat} (hi : pl[i]? = some p) (hj : pl[j]? = some q) (hne : i ≠ j) : p.1 + p.2 ≤ q.1 ∨ q.1 + q.2 ≤ p.1 := by
  have h1 := List.all_eq_true.1 h i (List.mem_range.2 (List.getElem?_eq_some_iff.1 hi).1)
  have h2 := List.all_eq_true.1 h1 j (List.mem_range.2 (List.getElem?_eq_some_iff.1 hj).1)
  simp only [hne, decide_false, Bool.false_or, hi, hj, apartP, Bool.or_eq_true, decide_eq_true_eq] at h2
  exact h2

theorem mapM_length {α β : Type} {f : α → Option β} : ∀ {l : List α} {r : List β}, l.mapM f = some r → r.length = l.length
  | [], r, h => by simp at h; subst h; rfl
  | a :: l, r, h => by
    simp only [List.mapM_cons, Option.bind_eq_bind, Option.pure_def, Option.bind_eq_some_iff, Option.some.injEq] at h
    obtain ⟨b, _, r', h2, rfl⟩ := h
    simp [mapM_length h2]

theorem lbuild_sound {nz : Bool} {o : Oper} {t : TypeId} {parts : Array (Nat × Operand)} {opv : Operand → SV} {ix : Nat} {r : LRes} (ho : o.op = .build t parts) (hv : ∀ x, SRd w ρ env (a.eval x) (opv x)) (hl : lbuild nz P t parts.toList opv ix = some r) (h : Rep w0 X w a σ env ρ)
    (hd : ∀ d, o.dst = some d → d < σ.tmps.length) (hb : BindOk P env ix r.bind) : r.upd = none ∧ OpOk P o a w w0 X (σ.put o.dst r.val) env := by
  unfold lbuild at hl
  split at hl
  · rename_i it fields hit hu
    split at hl
    · rename_i z pl hz hpl
      split at hl
      · rename_i y hy
        split at hl
        · rename_i hc
          obtain ⟨hnd, hin, hap⟩ := hc
          cases hl
          refine ⟨rfl, ?_⟩
          obtain ⟨dz, hev, hix⟩ := hb
          have hpll : pl.length = fields.toList.length := mapM_length hpl
          -- what a unit is
          have unitR : ∀ i off size agg x u, unitOf nz z (parts.toList.map fun p => (p.1, opv p.2)) i off size agg = some x → x.eval env = some u → u.cells.length = size ∧
              ((∃ p, p ∈ parts.toList ∧ p.1 = i ∧ RdD w ρ.S (a.eval p.2) u ∧ u.notTup = true) ∨ ((∀ p, p ∈ parts.toList → p.1 ≠ i) ∧ ∃ ds, u = .agg ds ∧ D.ofCells nz ((z.cells.toList.drop off).take size) = some ds)) := by
            intro i off size agg x u hx hu'
            unfold unitOf at hx
            split at hx
            · rename_i p hp
              split at hx
              · rename_i hag
                obtain ⟨x', hx', rfl⟩ := Option.map_eq_some_iff.1 hx
                have hmem := List.mem_of_find?_eq_some hp
                have hpi := List.find?_some hp
                simp only [beq_iff_eq] at hpi
                obtain ⟨p0, hp0, rfl⟩ := List.mem_map.1 hmem
                obtain ⟨d, hdx, hrx⟩ := SV.toE_rd hx' (hv p0.2)
                obtain ⟨h1, h2, h3⟩ := unit_rd hag hdx hrx hu'
                exact ⟨h2, .inl ⟨p0, hp0, hpi, h1, h3⟩⟩
              · cases hx
            · rename_i hnone
              obtain ⟨ds, hds, hx⟩ := Option.bind_eq_some_iff.1 hx
              split at hx
              · rename_i hdl
                cases hx
                simp only [E.eval, Option.some.injEq] at hu'
                subst hu'
                refine ⟨hdl, .inr ⟨fun p hp hpi => ?_, ds, rfl, hds⟩⟩
                have := List.find?_eq_none.1 hnone (p.1, opv p.2) (List.mem_map.2 ⟨p, hp, rfl⟩)
                simp [hpi] at this
              · cases hx
          obtain ⟨cs, rfl, hcl, hf, hcov⟩ := chain_spec (fun i off size agg x u h1 h2 => (unitR i off size agg x u h1 h2).1) hy hev
          rw [Nat.zero_add] at hcl
          have hzip : ∀ (i : Nat) (q : Nat × Nat), pl[i]? = some q → ∃ b, (pl.zip (fieldAggs P fields))[i]? = some (q, b) := by
            intro i q hq
            have hi := (List.getElem?_eq_some_iff.1 hq).1
            have hi2 : i < (fieldAggs P fields).length := by simp only [fieldAggs, List.length_map]; omega
            exact ⟨(fieldAggs P fields)[i], by rw [List.getElem?_zip_eq_some]; exact ⟨hq, List.getElem?_eq_getElem hi2⟩⟩
          have hunzip : ∀ (i : Nat) (q : (Nat × Nat) × Bool), (pl.zip (fieldAggs P fields))[i]? = some q → pl[i]? = some q.1 := by
            intro i q hq
            rw [List.getElem?_zip_eq_some] at hq
            exact hq.1
          -- the parts fit
          have hpart : ∀ p, p ∈ parts.toList → ∃ off, pl[p.1]? = some (off, (a.eval p.2).cells.size) ∧ off + (a.eval p.2).cells.size ≤ z.cells.size := by
            intro p hp
            have hlt : p.1 < pl.length := by
              have := List.all_eq_true.1 hin p hp
              simpa using this
            obtain ⟨b, hb⟩ := hzip p.1 pl[p.1] (List.getElem?_eq_getElem hlt)
            obtain ⟨hle, x, u, h1, h2⟩ := hf p.1 _ hb
            rw [Nat.zero_add] at h1
            obtain ⟨h3, h4⟩ := unitR _ _ _ _ _ _ h1 h2
            rcases h4 with ⟨p', hp', hpi, hr, hnt⟩ | ⟨hno, _⟩
            · have := nodup_fst hnd hp' hp hpi
              subst this
              have hsz := (hr.cellAt hnt).1
              rw [h3] at hsz
              exact ⟨pl[p'.1].1, by rw [hsz]; exact List.getElem?_eq_getElem hlt, by rw [hsz]; exact hle⟩
            · exact absurd rfl (hno p hp)
          obtain ⟨r, hr, hrs, hrk⟩ := fill_at (place := fun i => pl.toArray[i]?) (parts.toList.map fun p => (p.1, a.eval p.2)) z.cells (fun p hp => by
            obtain ⟨q, hq, rfl⟩ := List.mem_map.1 hp
            obtain ⟨off, h1, h2⟩ := hpart q hq
            exact ⟨off, by simpa using h1, h2⟩)
          have hbuilt : P.built t (parts.map fun (x : Nat × Operand) => (x.1, a.eval x.2)).toList = some r := by
            unfold Program.built
            simp only [hit, hu, hz]
            unfold fieldPlaces at hpl
            simp only [hpl, Array.toList_map]
            exact hr
          have hcell : ∀ (k : Nat) (c : D), cs[k]? = some c → c.one = true ∧ ∃ v, r[k]? = some v ∧ RdD w ρ.S v c := by
            intro k c hk
            have hkz : k < z.cells.size := by rw [← hcl]; exact (List.getElem?_eq_some_iff.1 hk).1
            obtain ⟨f, q, x, u, h1, h2, h3, h4, h5, h6⟩ := hcov k (Nat.zero_le _) hkz
            rw [Nat.sub_zero] at h6
            rw [Nat.zero_add] at h4
            have hplf := hunzip f q h1
            obtain ⟨h7, h8⟩ := unitR _ _ _ _ _ _ h4 h5
            have huc : u.cells[k - q.1.1]? = some c := h6 ▸ hk
            have hnocov : ∀ p, p ∈ parts.toList → p.1 ≠ f → ¬ Covers (fun i => pl.toArray[i]?) (p.1, a.eval p.2) k := by
              rintro p hp hne ⟨off, size, h9, h10, h11⟩
              simp only [List.getElem?_toArray] at h9
              have := allApart_spec hap h9 hplf hne
              simp only at this
              omega
            rcases h8 with ⟨p, hp, hpi, hrd, hnt⟩ | ⟨hno, ds, rfl, hds⟩
            · obtain ⟨h9, v, h10, h11⟩ := (hrd.cellAt hnt).2 _ c huc
              have hsz := (hrd.cellAt hnt).1
              rw [h7] at hsz
              refine ⟨h9, v, ?_, h11⟩
              have := (hrk k hkz).2 (p.1, a.eval p.2) q.1.1 (List.mem_map.2 ⟨p, hp, rfl⟩) (by simp only [List.getElem?_toArray, hpi, hplf, hsz]) h2 (by simp only [hsz]; exact h3) fun q' hq' hne => by
                obtain ⟨p', hp', rfl⟩ := List.mem_map.1 hq'
                refine hnocov p' hp' fun e => hne ?_
                rw [nodup_fst hnd hp' hp (e.trans hpi.symm)]
              rw [this]; exact h10
            · have := (hrk k hkz).1 fun q' hq' => by
                obtain ⟨p', hp', rfl⟩ := List.mem_map.1 hq'
                exact hnocov p' hp' (hno p' hp')
              rw [this]
              obtain ⟨_, hrd⟩ := D.ofCells_rd (w := w) (S := ρ.S) hds
              have hget : ((z.cells.toList.drop q.1.1).take q.1.2)[k - q.1.1]? = some z.cells[k] := by
                rw [List.getElem?_take, if_pos (by omega), List.getElem?_drop, show q.1.1 + (k - q.1.1) = k from by omega]
                simp [hkz]
              obtain ⟨h9, h10⟩ := hrd _ _ c hget huc
              exact ⟨h10, z.cells[k], Array.getElem?_eq_getElem hkz, h9⟩
          refine opOk_same h hd (v := .agg r) ?_ (.e (d := .agg cs) (by simp only [E.eval]; exact hix) (.agg (by rw [hrs, hcl]) (fun k c hk => (hcell k c hk).1) fun k v c hv' hk => ?_) (by simp))
          · unfold execOp
            simp only [ho, Sem.run_bind, run_build w t _ r hbuilt, Result.andThen_ok, Sem.run_pure]
          · obtain ⟨_, v', h1, h2⟩ := hcell k c hk
            rw [hv'] at h1
            cases h1
            exact h2
        · cases hl
      · cases hl
    · cases hl
  · cases hl

end
end Go.Am
