/-
  'make([]T, n)': a row of the call's own.
-/
import Derived.Test.YtnenlnmfoocpdaaAmRegion
import Derived.Laws.MakeOwn
set_option linter.unusedSimpArgs false
set_option linter.unusedVariables false
namespace Go.Am

def D.notTup : D → Bool
  | .tup _ => false
  | _ => true

def lmake (P : Program) (t : TypeId) (n c : SV) (dst : Option Tmp) (ix : Nat) : Option LRes :=
  match dst, P.underlying t, n.toE, c.toE with
  | some d, some (.slice e), some n', some c' => match P.info? e with
    | some i => (i.zero).bind fun z => (D.ofVal z).bind fun dz =>
        if n'.same c' = true ∧ dz.cells.length = i.size ∧ dz.notTup = true then some { val := .slc d, upd := some (d, .row (.sym ix) i.size), bind := some (.ev (.rep i.bytes n' dz)) } else none
    | none => none
  | _, _, _, _ => none

section
variable {P : Program} {w w0 : World} {X : Ent} {a : Act} {σ : SState} {env : List D} {ρ : Rho}

theorem RdD.cellAt {S : Sets} {v : Value} {d : D} (h : RdD w S v d) (hd : d.notTup = true) :
    v.cells.size = d.cells.length ∧ ∀ (j : Nat) (x : D), d.cells[j]? = some x → x.one = true ∧ ∃ u, v.cells[j]? = some u ∧ RdD w S u x := by
  have one : d.one = true → v.cells.size = d.cells.length ∧ ∀ (j : Nat) (x : D), d.cells[j]? = some x → x.one = true ∧ ∃ u, v.cells[j]? = some u ∧ RdD w S u x := by
    intro h1
    have hc : v.cells = #[v] := by
      have := h.one h1
      cases v <;> first | rfl | simp [Value.oneCell'] at this
    rw [hc, D.cells_one h1]
    refine ⟨rfl, fun j x hx => ?_⟩
    cases j with
    | zero => simp at hx; subst hx; exact ⟨h1, v, rfl, h⟩
    | succ j => simp at hx
  cases d with
  | agg ds =>
    obtain ⟨vs, rfl, hl, ho, hr⟩ := h.agg_inv
    refine ⟨hl, fun j x hx => ⟨ho j x hx, ?_⟩⟩
    have hj : j < vs.size := by rw [hl]; exact (List.getElem?_eq_some_iff.1 hx).1
    exact ⟨vs[j], Array.getElem?_eq_getElem hj, hr j _ x (Array.getElem?_eq_getElem hj) hx⟩
  | tup ds => cases hd
  | blk _ _ _ => cases h
  | st _ => cases h
  | mblk _ => cases h
  | _ => exact one rfl

theorem lmake_sound {o : Oper} {t : TypeId} {n c : Operand} {sn sc : SV} {ix : Nat} {r : LRes} (ho : o.op = .makeSlice t n c) (hl : lmake P t sn sc o.dst ix = some r) (hn : SRd w ρ env (a.eval n) sn) (hc : SRd w ρ env (a.eval c) sc) (h : Rep w0 X w a σ env ρ)
    (hd : ∀ d, o.dst = some d → d < σ.tmps.length) (hm : σ.mem.length = σ.tmps.length) (hb : BindOk P env ix r.bind) (hf : ∀ u, r.upd = some u → σ.obj u.1 = none ∧ σ.avoids u.1) : ∃ ob x, r.upd = some (ob, x) ∧ OpOk P o a w w0 X ((σ.setObj ob (some x)).put o.dst r.val) env := by
  unfold lmake at hl
  split at hl
  · rename_i d e n' c' hdst hu hn' hc'
    split at hl
    · rename_i i hi
      obtain ⟨z, hz, hl⟩ := Option.bind_eq_some_iff.1 hl
      obtain ⟨dz, hdz, hl⟩ := Option.bind_eq_some_iff.1 hl
      split at hl
      · rename_i hcond
        cases hl
        obtain ⟨hsame, hlen, htup⟩ := hcond
        obtain ⟨hfree, hav⟩ := hf _ rfl
        refine ⟨d, _, rfl, ?_⟩
        have hdl := hd d hdst
        obtain ⟨dn, hdn, hrn⟩ := SV.toE_rd hn' hn
        obtain ⟨dc, hdc, hrc⟩ := SV.toE_rd hc' hc
        rw [← E.same_eq hsame, hdn] at hdc
        cases hdc
        obtain ⟨dy, hev, hix⟩ := hb
        simp only [E.eval, hdn, Option.bind_some] at hev
        unfold D.rep at hev
        split at hev
        · rename_i k
          split at hev
          · rename_i hk
            obtain ⟨hk0, hkb, hkm⟩ := hk
            cases hev
            have hzr : RdD w ρ.S z dz := D.ofVal_rd hdz
            obtain ⟨hzl, hzc⟩ := hzr.cellAt htup
            rw [hlen] at hzl
            have hk63 : k ≤ 9223372036854775807 := by
              have h9 : k.toNat ≤ 9223372036854775807 := hkm
              omega
            have hbytes : (i.bytes : Int) * k ≤ 281474976710656 := by
              have h1 : ((k.toNat * i.bytes : Nat) : Int) ≤ 140737488355328 := by
                generalize k.toNat * i.bytes = q at hkb ⊢
                omega
              rw [Int.natCast_mul, Int.toNat_of_nonneg hk0, Int.mul_comm] at h1
              omega
            have hrun : (execOp a.eval o).run P w = .ok (.value (.slice (some ⟨w.heap.size, 0, none⟩) k.toNat k.toNat)) (w.alloc (.cells (madeCells z.cells (k.toNat * i.size)) e)) := by
              unfold execOp
              simp only [ho, hrn.v_eq, hrc.v_eq, Sem.run_bind, run_make w t e i z hu hi hz .i64 .i64 k k hk0 (Int.le_refl _) hbytes hk63, Result.andThen_ok, Sem.run_pure]
            have hK : Keeps ρ.S w (w.alloc (.cells (madeCells z.cells (k.toNat * i.size)) e)) := Keeps.alloc h.cells _
            have hrep := h.withObj (o := d) (x := .row (.sym ix) i.size) (v := .slice (some ⟨w.heap.size, 0, none⟩) k.toNat k.toNat) (by rw [hm]; exact hdl) hfree hav hK (fun b hb => heapOld w _ b hb) rfl rfl rfl (by simp) ?_ ?_
            · refine opOk_value hrun (hrep.put (by rw [hdst]; intro d' e; cases e; rw [SState.tmps_setObj]; exact hdl) ?_)
              have hval : (ρ.withObj d w.heap.size (.slice (some ⟨w.heap.size, 0, none⟩) k.toNat k.toNat)).val d = .slice (some ⟨w.heap.size, 0, none⟩) k.toNat k.toNat := by simp [Rho.withObj]
              have hs : SRd (w.alloc (.cells (madeCells z.cells (k.toNat * i.size)) e)) (ρ.withObj d w.heap.size (.slice (some ⟨w.heap.size, 0, none⟩) k.toNat k.toNat)) env ((ρ.withObj d w.heap.size (.slice (some ⟨w.heap.size, 0, none⟩) k.toNat k.toNat)).val d) (.slc d) := .slc
              rwa [hval] at hs
            · have hbk : (ρ.withObj d w.heap.size (.slice (some ⟨w.heap.size, 0, none⟩) k.toNat k.toNat)).blk d = w.heap.size := by simp [Rho.withObj]
              have hrepl : ∀ (m : Nat) (x : D), (List.replicate k.toNat dz)[m]? = some x → x = dz ∧ m < k.toNat := by
                intro m x hx
                rw [List.getElem?_replicate] at hx
                split at hx
                · cases hx; exact ⟨rfl, by assumption⟩
                · cases hx
              refine ⟨madeCells z.cells (k.toNat * i.size), e, List.replicate k.toNat dz, by rw [hbk]; exact heap_alloc_new w _, by simp only [E.eval]; exact hix, fun m x hx => by rw [(hrepl m x hx).1]; exact hlen, by simp [size_madeCells], fun m x j y hx hy => ?_, by rw [hbk]; simp [Rho.withObj], by simpa using hkm, fun off hs => ?_⟩
              · obtain ⟨rfl, hmk⟩ := hrepl m x hx
                obtain ⟨h1, u, h2, h3⟩ := hzc j y hy
                have hj : j < i.size := by rw [← hlen]; exact (List.getElem?_eq_some_iff.1 hy).1
                refine ⟨h1, u, ?_, h3.keep hK (Sets.le_refl _)⟩
                have hlt : m * i.size + j < k.toNat * i.size := by
                  have : (m + 1) * i.size ≤ k.toNat * i.size := Nat.mul_le_mul_right _ hmk
                  rw [Nat.add_mul, Nat.one_mul] at this
                  omega
                have hmod : (m * i.size + j) % i.size = j := by rw [Nat.mul_comm, Nat.mul_add_mod, Nat.mod_eq_of_lt hj]
                have hjz : j < z.cells.size := by rw [hzl]; exact hj
                have hu' : u = z.cells[j] := by rw [Array.getElem?_eq_getElem hjz] at h2; exact (Option.some.inj h2).symm
                simp only [madeCells, Array.getElem?_map, Array.getElem?_range, hlt, if_true, Option.map_some, hzl, hmod, Option.some.injEq]
                rw [hu']
                exact getElem!_pos z.cells j hjz
              · rw [hbk] at hs
                have := h.cells _ off hs
                omega
            · intro b hb
              simpa [objBlk, Rho.withObj] using hb.symm
          · cases hev
        · cases hev
      · cases hl
    · cases hl
  · cases hl

end
end Go.Am
