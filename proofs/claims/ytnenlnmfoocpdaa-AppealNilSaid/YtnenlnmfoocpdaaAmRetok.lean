/-
  The right to append gets another name: the one that the pattern of a meeting place has.
-/
import Derived.Test.YtnenlnmfoocpdaaAmTok
set_option linter.unusedSimpArgs false
set_option linter.unusedVariables false
namespace Go.Am

mutual
def SV.ren (k' k : Nat) : SV → SV
  | .own x o => if o = k' then .own x k else .own x o
  | .agg cs => .agg (SV.rens k' k cs)
  | .tup cs => .tup (SV.rens k' k cs)
  | .func fn cs => .func fn (SV.rens k' k cs)
  | .cond act sv => .cond act (sv.ren k' k)
  | .junk => .junk
  | .e x s => .e x s
  | .iptr x f => .iptr x f
  | .addr o f => .addr o f
  | .eaddr o x s f => .eaddr o x s f
  | .slc o => .slc o
def SV.rens (k' k : Nat) : List SV → List SV
  | [] => []
  | s :: r => s.ren k' k :: SV.rens k' k r
end

theorem SV.rens_get {k' k : Nat} : ∀ {cs : List SV} {i : Nat} {c : SV}, (SV.rens k' k cs)[i]? = some c → ∃ c', cs[i]? = some c' ∧ c = c'.ren k' k
  | [], i, c, h => by simp [SV.rens] at h
  | s :: r, 0, c, h => by simp [SV.rens] at h; exact ⟨s, rfl, h.symm⟩
  | s :: r, i + 1, c, h => by
    simp [SV.rens] at h
    obtain ⟨c', h1, h2⟩ := SV.rens_get h
    exact ⟨c', by simpa using h1, h2⟩

theorem SV.rens_length {k' k : Nat} : ∀ (cs : List SV), (SV.rens k' k cs).length = cs.length
  | [] => rfl
  | _ :: r => by simp [SV.rens, SV.rens_length r]

def Rho.retok (ρ : Rho) (k' k : Nat) : Rho := { ρ with val := fun x => if x = k then ρ.val k' else ρ.val x }

theorem SRd.ren {w : World} {ρ : Rho} {env : List D} {v : Value} {sv : SV} {k' k : Nat} (h : SRd w ρ env v sv) (ha : sv.avoids k = true) : SRd w (ρ.retok k' k) env v (sv.ren k' k) := by
  induction h with
  | junk => exact .junk
  | e hx h h1 => exact .e hx h h1
  | agg hl ho _ ih => exact .agg (by rw [SV.rens_length]; exact hl) ho fun i v c hv hc => by obtain ⟨c', h1, rfl⟩ := SV.rens_get hc; exact ih i v c' hv h1 (SV.avoidsAll_get (by simpa [SV.avoids] using ha) h1)
  | tup hl _ ih => exact .tup (by rw [SV.rens_length]; exact hl) fun i v c hv hc => by obtain ⟨c', h1, rfl⟩ := SV.rens_get hc; exact ih i v c' hv h1 (SV.avoidsAll_get (by simpa [SV.avoids] using ha) h1)
  | @addr o off =>
    have : (.pointer (some ⟨ρ.blk o, off, none⟩) : Value) = .pointer (some ⟨(ρ.retok k' k).blk o, off, none⟩) := rfl
    rw [this]; exact .addr
  | @eaddr o size off n x kd hx =>
    have : (.pointer (some ⟨ρ.blk o, n * size + off, none⟩) : Value) = .pointer (some ⟨(ρ.retok k' k).blk o, n * size + off, none⟩) := rfl
    rw [this]; exact .eaddr hx
  | iptr hx h => exact .iptr hx h
  | @own v x o es hx h hv =>
    have hne : o ≠ k := by simpa [SV.avoids] using ha
    simp only [SV.ren]
    split
    · rename_i e; subst e
      exact .own hx h (by simp [Rho.retok, hv])
    · exact .own hx h (by simp [Rho.retok, hne, hv])
  | @slc o =>
    have hne : o ≠ k := by simpa [SV.avoids] using ha
    have : ρ.val o = (ρ.retok k' k).val o := by simp [Rho.retok, hne]
    rw [this]; exact .slc
  | func hl _ ih => exact .func (by rw [SV.rens_length]; exact hl) fun i v c hv hc => by obtain ⟨c', h1, rfl⟩ := SV.rens_get hc; exact ih i v c' hv h1 (SV.avoidsAll_get (by simpa [SV.avoids] using ha) h1)
  | cond hd _ hn ih => exact .cond hd (fun hh => ih hh (by simpa [SV.avoids] using ha)) hn

def SObj.ren (k' k : Nat) : SObj → SObj
  | .box cs => .box (SV.rens k' k cs)
  | x => x

def SState.ren (k' k : Nat) (σ : SState) (x : SObj) : SState := { tmps := SV.rens k' k σ.tmps, mem := ((σ.mem.map fun x => x.map (SObj.ren k' k)).set k' none).set k (some x), hs := σ.hs.map (SObj.ren k' k) }

/-- the token k' is called k from now on -/
def SState.retok (σ : SState) (k' k : Nat) : SState :=
  if k' = k ∨ ¬ k < σ.mem.length ∨ k = HID ∨ k' = HID then σ else match (σ.down k).obj k' with
    | some (.tok e s) => (σ.down k).ren k' k (.tok e s)
    | _ => σ

section
variable {w w0 : World} {X : Ent} {a : Act} {σ : SState} {env : List D} {ρ : Rho}

theorem SState.ren_obj {k' k o : Nat} {x y : SObj} (hk : k < σ.mem.length) (hkH : k ≠ HID) (hkH' : k' ≠ HID) (h : (σ.ren k' k x).obj o = some y) : (o = k ∧ y = x) ∨ (o ≠ k ∧ o ≠ k' ∧ ∃ z, σ.obj o = some z ∧ y = z.ren k' k) := by
  simp only [SState.obj, SState.ren] at h ⊢
  by_cases hH : o = HID
  · subst hH
    simp only [if_true] at h
    obtain ⟨z, hz, rfl⟩ := Option.map_eq_some_iff.1 h
    exact .inr ⟨Ne.symm hkH, Ne.symm hkH', z, by simpa using hz, rfl⟩
  rw [if_neg hH] at h
  rw [if_neg hH]
  simp only [List.getD_eq_getElem?_getD, List.getElem?_set, List.length_set, List.getElem?_map, List.length_map] at h ⊢
  by_cases h1 : k = o
  · subst h1
    simp [hk] at h
    exact .inl ⟨rfl, h.symm⟩
  · rw [if_neg h1] at h
    by_cases h2 : k' = o
    · rw [if_pos h2] at h
      split at h <;> simp at h
    · rw [if_neg h2] at h
      refine .inr ⟨fun e => h1 e.symm, fun e => h2 e.symm, ?_⟩
      cases ho : σ.mem[o]? with
      | none => rw [ho] at h; simp at h
      | some z =>
        rw [ho] at h
        cases z with
        | none => simp at h
        | some z => simp at h; exact ⟨z, rfl, h.symm⟩

theorem SState.ren_tmp {k' k : Nat} {x : SObj} (t : Nat) : (σ.ren k' k x).tmp t = (σ.tmp t).ren k' k := by
  have go : ∀ (l : List SV) (t : Nat), (SV.rens k' k l).getD t .junk = (l.getD t .junk).ren k' k := by
    intro l
    induction l with
    | nil => intro t; simp [SV.rens, SV.ren]
    | cons s r ih =>
      intro t
      cases t with
      | zero => simp [SV.rens]
      | succ t => simpa [SV.rens] using ih t
  exact go σ.tmps t

theorem Rep.ren (h : Rep w0 X w a σ env ρ) {k' k : Nat} {e : TypeId} {s : Nat} (hne : k' ≠ k) (hk : k < σ.mem.length) (hkH : k ≠ HID) (hkH' : k' ≠ HID) (hav : σ.avoids k) (ho : σ.obj k' = some (.tok e s)) : Rep w0 X w a (σ.ren k' k (.tok e s)) env (ρ.retok k' k) := by
  have hblk : ∀ (o : Nat) (z : SObj), o ≠ k → objBlk (ρ.retok k' k) o (z.ren k' k) = objBlk ρ o z := by
    intro o z hok
    funext b
    cases z <;> simp [objBlk, Rho.retok, SObj.ren, hok]
  have hblkk : objBlk (ρ.retok k' k) k (.tok e s) = objBlk ρ k' (.tok e s) := by funext b; simp [objBlk, Rho.retok]
  refine ⟨by simpa [SState.ren, SV.rens_length] using h.size, fun t => by rw [SState.ren_tmp]; exact (h.tmps t).ren (hav.1 t), ?_, ?_, ?_, h.cells, h.os, h.tape, h.output, h.grown, h.old, h.sub, h.new, h.nod, h.hold⟩
  · intro o y hy
    rcases SState.ren_obj hk hkH hkH' hy with ⟨rfl, rfl⟩ | ⟨h1, h2, z, hz, rfl⟩
    · obtain ⟨n, xs, h3, h4⟩ := h.objs k' _ ho
      exact ⟨n, xs, by simpa [Rho.retok] using h3, by simpa [Rho.retok] using h4⟩
    · have hok := h.objs o z hz
      cases z with
      | box cs =>
        obtain ⟨vs, ty, h3, h4, h5, h6, h7⟩ := hok
        exact ⟨vs, ty, h3, by rw [SV.rens_length]; exact h4, h5, fun i v c hv hc => by obtain ⟨c', h8, rfl⟩ := SV.rens_get hc; exact (h6 i v c' hv h8).ren (SV.avoidsAll_get (by simpa [SObj.avoids] using hav.2 o _ hz) h8), h7⟩
      | row y sz =>
        obtain ⟨vs, ty, es, h3, h4, h5, h6, h7, h8, h9⟩ := hok
        exact ⟨vs, ty, es, h3, h4, h5, h6, h7, by simpa [Rho.retok, h1] using h8, h9⟩
      | tok e' sz =>
        obtain ⟨n, xs, h3, h4⟩ := hok
        exact ⟨n, xs, by simpa [Rho.retok, h1] using h3, by simpa [Rho.retok, h1] using h4⟩
      | store cf x => exact hok
  · intro o o' y y' b h1 h2 h3 h4
    rcases SState.ren_obj hk hkH hkH' h1 with ⟨rfl, rfl⟩ | ⟨e1, e2, z, hz, rfl⟩ <;> rcases SState.ren_obj hk hkH hkH' h2 with ⟨rfl, rfl⟩ | ⟨e3, e4, z', hz', rfl⟩
    · rfl
    · rw [hblkk] at h3
      rw [hblk o' z' e3] at h4
      exact absurd (h.inj k' o' _ z' b ho hz' h3 h4).symm e4
    · rw [hblkk] at h4
      rw [hblk o z e1] at h3
      exact absurd (h.inj o k' z _ b hz ho h3 h4) e2
    · rw [hblk o z e1] at h3
      rw [hblk o' z' e3] at h4
      exact h.inj o o' z z' b hz hz' h3 h4
  · intro o y b h1 h2
    rcases SState.ren_obj hk hkH hkH' h1 with ⟨rfl, rfl⟩ | ⟨e1, e2, z, hz, rfl⟩
    · rw [hblkk] at h2
      exact h.own k' _ b ho h2
    · rw [hblk o z e1] at h2
      (have := h.own o z b hz h2; cases z <;> simpa [SObj.ren, SObj.ro] using this)

theorem Rep.retok (h : Rep w0 X w a σ env ρ) (k' k : Nat) : ∃ ρ', Rep w0 X w a (σ.retok k' k) env ρ' := by
  unfold SState.retok
  split
  · exact ⟨ρ, h⟩
  · rename_i hc
    simp only [not_or, Decidable.not_not] at hc
    split
    · rename_i e s ho
      exact ⟨_, (h.down k).ren hc.1 (by rw [(σ.down_len k).2]; exact hc.2.1) hc.2.2.1 hc.2.2.2 (σ.down_avoids k) ho⟩
    · exact ⟨ρ, h⟩

theorem SState.retok_len (σ : SState) (k' k : Nat) : (σ.retok k' k).tmps.length = σ.tmps.length ∧ (σ.retok k' k).mem.length = σ.mem.length := by
  unfold SState.retok
  split
  · exact ⟨rfl, rfl⟩
  · split
    · simp [SState.ren, SV.rens_length, (σ.down_len k).1, (σ.down_len k).2]
    · exact ⟨rfl, rfl⟩

end
end Go.Am
