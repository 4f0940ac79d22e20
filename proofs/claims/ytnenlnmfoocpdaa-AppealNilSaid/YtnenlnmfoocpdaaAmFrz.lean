/-
  A row that is not written any more becomes data.
-/
import Derived.Test.YtnenlnmfoocpdaaAmNew
set_option linter.unusedSimpArgs false
set_option linter.unusedVariables false
namespace Go.Am

/-- the row's slots hold data from now on -/
def SV.frz (k : Nat) (x : E) (sv : SV) : SV :=
  match sv with
  | .slc o => if o = k then .e x true else .slc o
  | sv => sv

/-- ... and the pointers to a variable -/
def SV.frzB (k : Nat) (x : E) (sv : SV) : SV :=
  match sv with
  | .addr o 0 => if o = k then .e x true else .addr o 0
  | sv => sv

def SState.frz (k : Nat) (σ : SState) : SState :=
  match σ.obj k with
  | some (.row x _) => { (σ.setObj k none) with tmps := σ.tmps.map (SV.frz k x) }
  | some (.box cs) => (match SV.toEs cs with
    | some y => { (σ.setObj k none) with tmps := σ.tmps.map (SV.frzB k (.mkptr y)) }
    | none => σ)
  | _ => σ

def frzAll : List Nat → SState → SState
  | [], σ => σ
  | k :: ks, σ => frzAll ks (σ.frz k)

/-- which rows become data ahead of a region -/
def frzAt (id : Nat) (σ : SState) : SState :=
  match σ.obj HID with
  | some (.store cf _) => frzAll ((cf.frzs.filter fun p => p.1 == id).map (·.2)) σ
  | _ => σ

section
variable {w w0 : World} {X : Ent} {a : Act} {σ : SState} {env : List D} {ρ : Rho}

theorem row_rdS {o : Nat} {x : E} {sz : Nat} (h : ObjOk w ρ env o (.row x sz)) : ∃ d, x.eval env = some d ∧ RdD w (ρ.S.or fun b _ => b = ρ.blk o) (ρ.val o) d ∧ d.one = true := by
  obtain ⟨vs, ty, es, hh, hx, hz, hsz, hr, hval, hm, _⟩ := h
  refine ⟨_, hx, ?_, rfl⟩
  rw [hval]
  have hget : ∀ (i : Nat) (e : D) (j : Nat) (d : D), es[i]? = some e → e.cells[j]? = some d → ∃ v, vs[i * sz + j]? = some v ∧ RdD w ρ.S v d ∧ d.one = true := by
    intro i e j d he hd
    obtain ⟨h1, v, h2, h3⟩ := hr i e j d he hd
    exact ⟨v, h2, h3, h1⟩
  refine .lst (size := sz) (val := fun i j => vs.getD (i * sz + j) undef) rfl (Nat.le_refl _) hm hz (fun i e j d he hd => (hget i e j d he hd).choose_spec.2.2) (fun i e j d he hd => .inr rfl) (fun i e j d he hd => ?_) fun i e j d he hd => ?_
  · obtain ⟨v, h2, _⟩ := hget i e j d he hd
    rw [cell_heap hh, Nat.zero_add, h2, Array.getD_eq_getD_getElem?, h2]
    rfl
  · obtain ⟨v, h2, h3, _⟩ := hget i e j d he hd
    rw [Array.getD_eq_getD_getElem?, h2]
    exact h3.keep (Keeps.refl _ _) (ρ.S.le_or _)

theorem Rep.frzG (h : Rep w0 X w a σ env ρ) {k : Nat} {z : SObj} (hk : σ.obj k = some z) (hz : objBlk ρ k z (ρ.blk k)) (hro : z.ro = false) {f : SV → SV} (hf : ∀ v sv, SRd w { ρ with S := ρ.S.or fun b _ => b = ρ.blk k } env v sv → SRd w { ρ with S := ρ.S.or fun b _ => b = ρ.blk k } env v (f sv)) (hj : f .junk = .junk) :
    Rep w0 X w a { (σ.setObj k none) with tmps := σ.tmps.map f } env { ρ with S := ρ.S.or fun b _ => b = ρ.blk k } := by
  have hle : ρ.S ≤ ρ.S.or fun b _ => b = ρ.blk k := ρ.S.le_or _
  have hm : ρ.More { ρ with S := ρ.S.or fun b _ => b = ρ.blk k } (fun _ => False) := ⟨⟨fun _ _ => rfl, fun _ _ => rfl, hle⟩, fun _ => rfl, fun _ => rfl⟩
  have hownk := h.own k _ (ρ.blk k) hk hz
  refine ⟨by simpa using h.size, fun t => ?_, fun o y hy => ?_, fun o o' y y' b h1 h2 => h.inj o o' y y' b (del_obj h1).2 (del_obj h2).2, fun o y b h1 => h.own o y b (del_obj h1).2, fun b o hs => ?_, h.os, h.tape, h.output, h.grown, h.old, Sets.le_trans h.sub hle, fun b o hs => ?_, h.nod, h.hold⟩
  · have hv := (h.tmps t).keep (Keeps.refl _ _) hm (fun _ hf => hf.elim)
    have htmp : SState.tmp { (σ.setObj k none) with tmps := σ.tmps.map f } t = f (σ.tmp t) := by
      simp only [SState.tmp, List.getD_eq_getElem?_getD, List.getElem?_map]
      cases σ.tmps[t]? with
      | none => exact hj.symm
      | some _ => rfl
    rw [htmp]
    exact hf _ _ hv
  · obtain ⟨hne, hy'⟩ := del_obj hy
    refine (h.objs o y hy').keep (Keeps.refl _ _) hm (fun hf => hf) (fun _ hf => hf.elim) (fun _ _ => rfl) fun b off hb hs => ?_
    rcases hs with hs | hs
    · exact hs
    · subst hs
      exact absurd (h.inj o k y _ _ hy' hk hb hz) hne
  · rcases hs with hs | rfl
    · exact h.cells b o hs
    · exact hownk.2
  · rcases hs with hs | rfl
    · exact h.new b o hs
    · rcases hownk.1 with g | g | g
      · exact absurd g.1 (by simp [hro])
      · exact .inr (.inl g)
      · exact .inr (.inr g)

theorem Rep.frz (h : Rep w0 X w a σ env ρ) (k : Nat) : ∃ ρ', Rep w0 X w a (σ.frz k) env ρ' := by
  unfold SState.frz
  split
  · rename_i x sz hk
    refine ⟨_, h.frzG hk rfl rfl (fun v sv hv => ?_) rfl⟩
    unfold SV.frz
    split
    · rename_i o
      split
      · rename_i e
        subst e
        obtain ⟨d, h1, h2, h3⟩ := row_rdS (h.objs _ _ hk)
        rw [hv.slc_inv]
        exact .e h1 h2 fun _ => h3
      · exact hv
    · exact hv
  · rename_i cs hk
    split
    · rename_i y hy
      refine ⟨_, h.frzG hk rfl rfl (fun v sv hv => ?_) rfl⟩
      unfold SV.frzB
      split
      · rename_i o
        split
        · rename_i e
          subst e
          obtain ⟨vs, ty, hh, hsz, ho, hr, _⟩ := h.objs _ _ hk
          obtain ⟨ds, he, hl, hd⟩ := SV.toEs_rd (vs := vs.toList) hy (by simpa using hsz) (fun i v hv => ho i v (by simpa using hv)) (fun i v c hv hc => hr i v c (by simpa using hv) hc)
          rw [hv.addr_inv]
          refine .e (d := .ptr ds) (by simp [E.eval, he, D.mkptr]) ?_ fun _ => rfl
          have hcell : ∀ (j : Nat) (c : D), ds[j]? = some c → ∃ u, vs[j]? = some u := fun j c hj => ⟨_, Array.getElem?_eq_getElem (by have := (List.getElem?_eq_some_iff.1 hj).1; simp at hl; omega)⟩
          refine .ptr (val := fun j => vs.getD j undef) (fun j c hj => ?_) (fun j c hj => .inr rfl) (fun j c hj => ?_) fun j c hj => ?_
          · obtain ⟨u, hu⟩ := hcell j c hj
            exact (hd j u c (by simpa using hu) hj).2
          · obtain ⟨u, hu⟩ := hcell j c hj
            rw [cell_heap hh, Nat.zero_add, hu, Array.getD_eq_getD_getElem?, hu]
            rfl
          · obtain ⟨u, hu⟩ := hcell j c hj
            rw [Array.getD_eq_getD_getElem?, hu]
            exact (hd j u c (by simpa using hu) hj).1.keep (Keeps.refl _ _) (ρ.S.le_or _)
        · exact hv
      · exact hv
    · exact ⟨ρ, h⟩
  · exact ⟨ρ, h⟩

theorem Rep.frzAll : ∀ (ks : List Nat) {σ : SState} {ρ : Rho}, Rep w0 X w a σ env ρ → ∃ ρ', Rep w0 X w a (frzAll ks σ) env ρ'
  | [], _, ρ, h => ⟨ρ, h⟩
  | k :: ks, _, _, h => by
    obtain ⟨_, h'⟩ := h.frz k
    exact Rep.frzAll ks h'

theorem Rep.frzAt (h : Rep w0 X w a σ env ρ) (id : Nat) : ∃ ρ', Rep w0 X w a (frzAt id σ) env ρ' := by
  unfold Go.Am.frzAt
  split
  · exact h.frzAll _
  · exact ⟨ρ, h⟩

theorem frz_len (k : Nat) (σ : SState) : (σ.frz k).tmps.length = σ.tmps.length ∧ (σ.frz k).mem.length = σ.mem.length := by
  unfold SState.frz
  split
  · refine ⟨by simp, ?_⟩
    show (σ.setObj k none).mem.length = _
    exact SState.mlen_setObj _ _ _
  · split
    · refine ⟨by simp, ?_⟩
      show (σ.setObj k none).mem.length = _
      exact SState.mlen_setObj _ _ _
    · exact ⟨rfl, rfl⟩
  · exact ⟨rfl, rfl⟩

theorem frzAll_len : ∀ (ks : List Nat) (σ : SState), (frzAll ks σ).tmps.length = σ.tmps.length ∧ (frzAll ks σ).mem.length = σ.mem.length
  | [], _ => ⟨rfl, rfl⟩
  | k :: ks, σ => by
    have h1 := frzAll_len ks (σ.frz k)
    have h2 := frz_len k σ
    exact ⟨h1.1.trans h2.1, h1.2.trans h2.2⟩

theorem frzAt_len (id : Nat) (σ : SState) : (frzAt id σ).tmps.length = σ.tmps.length ∧ (frzAt id σ).mem.length = σ.mem.length := by
  unfold frzAt
  split
  · exact frzAll_len _ _
  · exact ⟨rfl, rfl⟩

end
end Go.Am
