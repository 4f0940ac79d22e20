/-
  Slice literals.
-/
import Derived.Test.YtnenlnmfoocpdaaAmTok
import Derived.Test.YtnenlnmfoocpdaaAmMake
import Derived.Great.BuildSlice
set_option linter.unusedSimpArgs false
set_option linter.unusedVariables false
namespace Go.Am

def unitE (agg : Bool) (n : Nat) (x : E) : E := if agg then .aggN n x else .scal x

def listE (agg : Bool) (n : Nat) : List SV → Option E
  | [] => some (.const (.lst []))
  | s :: r => match s.toE, listE agg n r with
    | some x, some y => some (.lcons (unitE agg n x) y)
    | _, _ => none

def llit (P : Program) (t : TypeId) (len : Nat) (parts : List (Nat × Operand)) (opv : Operand → SV) (dst : Option Tmp) (ix : Nat) : Option LRes :=
  match dst, P.underlying t with
  | some d, some (.slice e) => match P.info? e, aggT P e, listE ((aggT P e).getD false) ((szT P e).getD 0) (parts.map fun p => opv p.2) with
    | some i, some agg, some y =>
        if parts.map (·.1) = List.range len ∧ 0 < i.size ∧ len * i.size ≤ 16777216 ∧ (agg = true ∨ i.size = 1) ∧ i.zero.isSome = true then some { val := .own (.sym ix) d, upd := some (d, .tok e i.size), bind := some (.ev y) } else none
    | _, _, _ => none
  | _, _ => none

section
variable {P : Program} {w w0 : World} {X : Ent} {a : Act} {σ : SState} {env : List D} {ρ : Rho}

theorem unit_rd {agg : Bool} {n : Nat} {x : E} {d u : D} {v : Value} {S : Sets} (hag : agg = true ∨ n = 1) (hx : x.eval env = some d) (hr : RdD w S v d) (hu : (unitE agg n x).eval env = some u) : RdD w S v u ∧ u.cells.length = n ∧ u.notTup = true := by
  unfold unitE at hu
  split at hu
  · simp only [E.eval, hx, Option.bind_some] at hu
    unfold D.aggN at hu
    split at hu
    · split at hu
      · rename_i hl; cases hu; exact ⟨hr, hl, rfl⟩
      · cases hu
    · cases hu
  · rename_i hna
    simp only [E.eval, hx, Option.bind_some] at hu
    unfold D.scal at hu
    split at hu
    · rename_i h1
      cases hu
      refine ⟨hr, ?_, ?_⟩
      · rw [D.cells_one h1, hag.resolve_left hna]; rfl
      · cases d <;> first | rfl | simp [D.one] at h1
    · cases hu

theorem listE_rd {agg : Bool} {n : Nat} {S : Sets} (hag : agg = true ∨ n = 1) : ∀ {svs : List SV} {vs : List Value} {y : E} {d : D}, listE agg n svs = some y → vs.length = svs.length → (∀ (i : Nat) (v : Value) (s : SV) (x : E), vs[i]? = some v → svs[i]? = some s → s.toE = some x → ∃ d, x.eval env = some d ∧ RdD w S v d) → y.eval env = some d →
    ∃ ds, d = .lst ds ∧ ds.length = vs.length ∧ ∀ (i : Nat) (v : Value) (u : D), vs[i]? = some v → ds[i]? = some u → RdD w S v u ∧ u.cells.length = n ∧ u.notTup = true
  | [], vs, y, d, h, hl, _, hd => by
    simp [listE] at h; subst h
    simp [E.eval] at hd; subst hd
    have : vs = [] := List.eq_nil_of_length_eq_zero (by simpa using hl)
    subst this
    exact ⟨[], rfl, rfl, by simp⟩
  | s :: r, vs, y, d, h, hl, hh, hd => by
    match vs, hl with
    | v :: vs, hl =>
      simp only [listE] at h
      split at h
      · rename_i x y' hx hy
        cases h
        simp only [E.eval, Option.bind_eq_some_iff] at hd
        obtain ⟨u, hu, d', hd', hc⟩ := hd
        obtain ⟨ds, rfl, hdl, hds⟩ := listE_rd (vs := vs) hag hy (by simpa using hl) (fun i v s x h1 h2 h3 => hh (i + 1) v s x (by simpa using h1) (by simpa using h2) h3) hd'
        simp only [D.lcons, Option.some.injEq] at hc
        subst hc
        obtain ⟨dx, hdx, hrx⟩ := hh 0 v s x rfl rfl hx
        refine ⟨u :: ds, rfl, by simp [hdl], fun i v' u' hv hu' => ?_⟩
        cases i with
        | zero => simp at hv hu'; subst hv hu'; exact unit_rd hag hdx hrx hu
        | succ i => exact hds i v' u' (by simpa using hv) (by simpa using hu')
      · cases h

theorem run_buildSlice0 (w : World) (t e : TypeId) (i : TypeInfo) (hu : P.underlying t = some (.slice e)) (hi : P.info? e = some i) : (Instr.buildSlice t 0 #[]).run P w = .ok (.slice (some ⟨w.heap.size, 0, none⟩) 0 0) (w.alloc (.cells #[] e)) := by
  simp [Instr.buildSlice, run_underlying hu, sizeOf, typeInfo, hi, Instr.fill, newRow]
  rw [show Array.range 0 = #[] from Array.size_eq_zero_iff.1 (by simp)]
  simp

/-- a slice literal's run -/
theorem lit_run {o : Oper} {t e : TypeId} {len : Nat} {parts : Array (Nat × Operand)} {opv : Operand → SV} {i : TypeInfo} {agg : Bool} {y : E} {z : Value} {dz : D} (ho : o.op = .buildSlice t len parts) (hv : ∀ x, SRd w ρ env (a.eval x) (opv x)) (hu : P.underlying t = some (.slice e)) (hi : P.info? e = some i)
    (hy : listE agg i.size (parts.toList.map fun p => opv p.2) = some y) (hidx : parts.toList.map (·.1) = List.range len) (hpos : 0 < i.size) (hsmall : len * i.size ≤ 16777216) (hagg : agg = true ∨ i.size = 1) (hz : i.zero = some z) (hev : y.eval env = some dz) :
    ∃ (r : Array Value) (ds : List D), dz = .lst ds ∧ ds.length = len ∧ (execOp a.eval o).run P w = .ok (.value (.slice (some ⟨w.heap.size, 0, none⟩) len len)) (w.alloc (.cells r e)) ∧ r.size = len * i.size ∧ len ≤ maxLen ∧ RowRd w ρ.S i.size r.toList ds := by
  -- the values
  have hplen : parts.toList.length = len := by
    have := congrArg List.length hidx
    simpa using this
  obtain ⟨ds, rfl, hdsl, hds⟩ := listE_rd (w := w) (S := ρ.S) (vs := parts.toList.map fun p => a.eval p.2) hagg hy (by simp) (fun j v s x h1 h2 h3 => by
    simp only [List.getElem?_map, Option.map_eq_some_iff] at h1 h2
    obtain ⟨p, hp, rfl⟩ := h1
    obtain ⟨q, hq, rfl⟩ := h2
    rw [hp] at hq; cases hq
    exact SV.toE_rd h3 (hv p.2)) hev
  have hdl2 : ds.length = len := by rw [hdsl]; simpa using hplen
  have hparts : (parts.map fun (x : Nat × Operand) => (x.1, a.eval x.2)).toList = ((parts.toList.map fun p => a.eval p.2).zipIdx 0).map fun x => (x.2, x.1) := by
    apply List.ext_getElem?
    intro j
    simp only [Array.toList_map, List.getElem?_map, List.getElem?_zipIdx, Nat.zero_add]
    cases hp : parts.toList[j]? with
    | none => rfl
    | some p =>
      have h1 : (parts.toList.map (·.1))[j]? = some p.1 := by rw [List.getElem?_map, hp]; rfl
      rw [hidx] at h1
      have h2 : p.1 = j := by
        have hj : j < (List.range len).length := (List.getElem?_eq_some_iff.1 h1).1
        rw [List.getElem?_range (by simpa using hj)] at h1
        exact (Option.some.inj h1).symm
      simp [h2]
  have hcs : ∀ v, v ∈ parts.toList.map (fun p => a.eval p.2) → v.cells.size = i.size := by
    intro v hv'
    obtain ⟨j, hj⟩ := List.getElem?_of_mem hv'
    have hjl : j < ds.length := by rw [hdsl]; exact (List.getElem?_eq_some_iff.1 hj).1
    obtain ⟨h1, h2, h3⟩ := hds j v _ hj (List.getElem?_eq_getElem hjl)
    rw [(h1.cellAt h3).1, h2]
  -- the run
  have hrun : ∃ r : Array Value, (Instr.buildSlice t len (parts.map fun (x : Nat × Operand) => (x.1, a.eval x.2))).run P w = .ok (.slice (some ⟨w.heap.size, 0, none⟩) len len) (w.alloc (.cells r e)) ∧ r.size = len * i.size ∧
      ∀ k, k < len * i.size → r[k]? = ((parts.toList.map fun p => a.eval p.2)[k / i.size]?).bind fun v => v.cells[k % i.size]? := by
    rcases Nat.eq_zero_or_pos len with h0 | h0
    · subst h0
      have : parts = #[] := by
        have : parts.toList = [] := List.eq_nil_of_length_eq_zero hplen
        rw [← Array.toArray_toList (xs := parts), this]
      subst this
      refine ⟨#[], ?_, by simp, fun k hk => by simp at hk⟩
      rw [show (#[] : Array (Nat × Operand)).map (fun x => (x.1, a.eval x.2)) = #[] from by simp]
      exact run_buildSlice0 w t e i hu hi
    · have hp' : 0 < len * i.size := Nat.mul_pos h0 hpos
      obtain ⟨r, hr, hrs, hrk⟩ := Great.fill_dense hpos (parts.toList.map fun p => a.eval p.2) 0 ((Array.range (len * i.size)).map (z.cells[· % z.cells.size]!)) hcs (by simp [hplen])
      refine ⟨r, run_buildSlice w t e len _ r i z hu hi hz (by omega) (by omega) (by rw [hparts]; exact hr), by rw [hrs]; simp, fun k hk => ?_⟩
      rw [hrk k, if_pos ⟨by omega, by simpa [hplen] using hk⟩, Nat.sub_zero]
  obtain ⟨r, hrun, hrs, hrk⟩ := hrun
  have hml : len ≤ maxLen := by
    have : len ≤ len * i.size := Nat.le_mul_of_pos_right _ hpos
    have h9 : len ≤ 9223372036854775807 := by omega
    exact h9
  have hzz : ∀ (j : Nat) (u : D), ds[j]? = some u → u.cells.length = i.size := fun j u hj => by
    have hjl : j < (parts.toList.map fun p => a.eval p.2).length := by rw [← hdsl]; exact (List.getElem?_eq_some_iff.1 hj).1
    exact (hds j _ u (List.getElem?_eq_getElem hjl) hj).2.1
  have hrow : RowRd w ρ.S i.size r.toList ds := by
    refine ⟨by simp [hrs, hdl2], hzz, fun j u q x hj hq => ?_⟩
    have hjl : j < (parts.toList.map fun p => a.eval p.2).length := by rw [← hdsl]; exact (List.getElem?_eq_some_iff.1 hj).1
    obtain ⟨h1, h2, h3⟩ := hds j _ u (List.getElem?_eq_getElem hjl) hj
    obtain ⟨h4, v, h5, h6⟩ := (h1.cellAt h3).2 q x hq
    obtain ⟨hlt, hqs⟩ := index_lt hzz hj hq
    refine ⟨h4, v, ?_, h6⟩
    have hdiv : (j * i.size + q) / i.size = j := by rw [Nat.mul_comm, Nat.mul_add_div hpos, Nat.div_eq_of_lt hqs, Nat.add_zero]
    have hmod : (j * i.size + q) % i.size = q := by rw [Nat.mul_comm, Nat.mul_add_mod, Nat.mod_eq_of_lt hqs]
    rw [Array.getElem?_toList, hrk _ (by rw [← hdl2]; exact hlt), hdiv, hmod, List.getElem?_eq_getElem hjl]
    exact h5
  refine ⟨r, ds, rfl, hdl2, ?_, hrs, hml, hrow⟩
  unfold execOp
  simp only [ho, Sem.run_bind, hrun, Result.andThen_ok, Sem.run_pure]

theorem llit_sound {o : Oper} {t : TypeId} {len : Nat} {parts : Array (Nat × Operand)} {opv : Operand → SV} {ix : Nat} {r : LRes} (ho : o.op = .buildSlice t len parts) (hv : ∀ x, SRd w ρ env (a.eval x) (opv x)) (hl : llit P t len parts.toList opv o.dst ix = some r) (h : Rep w0 X w a σ env ρ)
    (hd : ∀ d, o.dst = some d → d < σ.tmps.length) (hm : σ.mem.length = σ.tmps.length) (hb : BindOk P env ix r.bind) (hf : ∀ u, r.upd = some u → σ.obj u.1 = none ∧ σ.avoids u.1) : ∃ ob x, r.upd = some (ob, x) ∧ OpOk P o a w w0 X ((σ.setObj ob (some x)).put o.dst r.val) env := by
  unfold llit at hl
  split at hl
  · rename_i d e hdst hu
    split at hl
    · rename_i i agg y hi hag hy
      split at hl
      · rename_i hc
        cases hl
        obtain ⟨hidx, hpos, hsmall, hagg, hzero⟩ := hc
        obtain ⟨hfree, hav⟩ := hf _ rfl
        refine ⟨d, _, rfl, ?_⟩
        have hdl := hd d hdst
        have hsz : szT P e = some i.size := by simp [szT, hi]
        rw [hag, hsz] at hy
        simp only [Option.getD_some] at hy
        obtain ⟨dz, hev, hix⟩ := hb
        obtain ⟨z, hz⟩ := Option.isSome_iff_exists.1 hzero
        obtain ⟨r, ds, rfl, hdl2, hrunx, hrs, hml, hrow⟩ := lit_run ho hv hu hi hy hidx hpos hsmall hagg hz hev
        have hK : Keeps ρ.S w (w.alloc (.cells r e)) := Keeps.alloc h.cells _
        have hown : (w.alloc (.cells r e)).ownsRow 0 e i.size (.slice (some ⟨w.heap.size, 0, none⟩) len len) len r.toList := World.ownsRow_lit w r len (Nat.zero_le _) hml hrs
        have hrep := h.addTok (w' := w.alloc (.cells r e)) (k := d) (by rw [hm]; exact hdl) hfree hav hown hK (fun o' y' b h1 h2 => ?_) (fun b hb => ?_) (fun b hb off _ hS => ?_) rfl rfl rfl (by simp) (fun b hb _ => heapOld w _ b (Nat.lt_of_lt_of_le hb h.grown))
        · refine opOk_value (v := .slice (some ⟨w.heap.size, 0, none⟩) len len) ?_ (hrep.put (by rw [hdst]; intro d' e; cases e; rw [SState.tmps_setObj]; exact hdl) ?_)
          · exact hrunx
          · exact .own (es := ds) (by simp only [E.eval]; exact hix) (own_rd hown hdl2 (hrow.keep hK (ρ.S.le_or _)) fun b hb j hj => .inr ⟨hb, hj⟩) (by simp [Rho.withTok])
        · have := (h.own o' y' b h1 h2).2
          refine ⟨heapOld w _ b this, ?_⟩
          simp [Value.ownBlock]
          omega
        · simp [Value.ownBlock] at hb
          exact .inl (by rw [← hb]; exact h.grown)
        · simp [Value.ownBlock] at hb
          have := h.cells b off hS
          omega
      · cases hl
    · cases hl
  · cases hl

end
end Go.Am
