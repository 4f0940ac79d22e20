/-
  A function that writes only a store of its own is a reader wherever it is called.
-/
import Derived.Test.YtnenlnmfoocpdaaAmFn
set_option linter.unusedSimpArgs false
set_option linter.unusedVariables false
namespace Go.Am

mutual
/-- does the data name no block of a store? -/
def D.noid : D → Bool
  | .v _ | .snil => true
  | .agg cs | .lst cs | .ptr cs | .tup cs => noids cs
  | .ifc _ d => d.noid
  | .fn _ a b => noids a && noids b
  | .loc _ _ | .sl _ _ _ | .blk _ _ _ | .mp _ | .mblk _ | .st _ | .yl _ _ _ _ => false
def noids : List D → Bool
  | [] => true
  | d :: r => d.noid && noids r
end

theorem noids_get : ∀ {ds : List D} {i : Nat} {d : D}, noids ds = true → ds[i]? = some d → d.noid = true
  | [], _, _, _, h => by simp at h
  | x :: r, 0, d, h, hi => by simp [noids] at h hi; exact hi ▸ h.1
  | x :: r, i + 1, d, h, hi => by simp [noids] at h hi; exact noids_get h.2 hi

theorem noid_cells {d c : D} {j : Nat} (h : d.noid = true) (hc : d.cells[j]? = some c) : c.noid = true := by
  cases d <;> first
    | (simp only [D.cells] at hc; simp only [D.noid] at h; exact noids_get h hc)
    | (cases j with
       | zero => simp only [D.cells, List.getElem?_cons_zero, Option.some.injEq] at hc; subst hc; exact h
       | succ j => simp [D.cells] at hc)

/-- Data without blocks of the store reads as it does in any other store. -/
theorem RdD.free {w : World} {S S' : Sets} {v : Value} {d : D} (h : RdD w S v d) (hS : ∀ b o, S b o → S' b o) (hd : d.noid = true) : RdD w S' v d := by
  induction h with
  | v h => exact .v h
  | agg hl ho _ ih => exact .agg hl ho fun i v d h1 h2 => ih i v d h1 h2 (noids_get (by simpa [D.noid] using hd) h2)
  | nil => exact .nil
  | emp hm => exact .emp hm
  | lst hl hc hm hz ho hS1 hw _ ih => exact .lst hl hc hm hz ho (fun i e j d h1 h2 => hS _ _ (hS1 i e j d h1 h2)) hw fun i e j d h1 h2 => ih i e j d h1 h2 (noid_cells (noids_get (by simpa [D.noid] using hd) h1) h2)
  | ptr ho hS1 hw _ ih => exact .ptr ho (fun j d h1 => hS _ _ (hS1 j d h1)) hw fun j d h1 => ih j d h1 (noids_get (by simpa [D.noid] using hd) h1)
  | tup hl _ ih => exact .tup hl fun i v d h1 h2 => ih i v d h1 h2 (noids_get (by simpa [D.noid] using hd) h2)
  | ifc _ ih => exact .ifc (ih (by simpa [D.noid] using hd))
  | fn hl hl' _ _ ih ih' =>
    simp only [D.noid, Bool.and_eq_true] at hd
    exact .fn hl hl' (fun i v d h1 h2 => ih i v d h1 h2 (noids_get hd.1 h2)) fun i v d h1 h2 => ih' i v d h1 h2 (noids_get hd.2 h2)
  | snil => exact .snil
  | mp _ | loc _ | sl _ _ _ _ | yl _ _ _ => simp [D.noid] at hd

def Out.noid : Out → Bool
  | .ret d | .pan d => d.noid

/-- **A store of its own.** -/
theorem FSpecWO.localize {P : Program} {f : FuncId} {ds : List D} {o : Out} {h' : D} (h : FSpecWO P f (.st []) ds o h') (hds : noids ds = true) (ho : o.noid = true) (bs : List D) : FSpecO P f (.st bs) ds o := by
  intro w S foot bs0 vs hb hst hhold hfl hS hvl hrd
  let S0 : Sets := { mem := S.mem, loc := fun _ => 0, n := 0, cap := fun _ => 0 }
  have hst0 : StOk w S0 (fun _ => False) [] := ⟨rfl, fun i e sz cs hi => by simp at hi, fun b off hf => hf.elim, fun i kvs hi => by simp at hi, fun i j x y hi => by simp at hi⟩
  refine (h w S0 (fun _ => False) [] vs rfl hst0 (fun l rec hl => by cases hl) (fun _ hf => hf.elim) hS hvl fun i v x hv hx => (hrd i v x hv hx).free (fun _ _ h => h) (noids_get hds hx)).mono ?_
  rintro e w' ⟨v, S', foot', bs', hends, _, _, hK, hle, hos, htape, hout, hsz, hold, hft, hnew, hlt⟩
  refine ⟨v, { S with mem := S'.mem }, ?_, ⟨hos, htape, hout, hsz, fun b hb => hold b hb fun hf => hf⟩, ⟨hle.mem, Nat.le_refl _, fun _ _ => rfl, fun _ _ => rfl, rfl⟩, rfl, fun b o hs => ?_, hlt⟩
  · cases o with
    | ret d => exact ⟨hends.1, hends.2.free (fun _ _ h => h) ho⟩
    | pan d => exact ⟨hends.1, hends.2.free (fun _ _ h => h) ho⟩
  · rcases hnew b o hs with g | g | g
    · exact .inl g
    · exact g.elim
    · exact .inr g

end Go.Am
