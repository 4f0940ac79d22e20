/-
  A law's statement, out of the contract of its function over data.
-/
import Derived.Test.YtnenlnmfoocpdaaAmOpen
set_option linter.unusedSimpArgs false
set_option linter.unusedVariables false
namespace Go.Am
open Go.RowKit Go.ChangeShapes Go.WideShapes

/-- an argument is data of that form -/
def ArgSh (s : Sh) (x : D) : Prop := (s.isSt = true → ∃ cs, x = .agg cs ∧ OfSh s cs) ∧ (s.isSt = false → OfSh s [x])

def ArgsSh : List Sh → List D → Prop
  | [], ds => ds = []
  | s :: r, ds => ∃ x ys, ds = x :: ys ∧ ArgSh s x ∧ ArgsSh r ys

section
variable {H : Type} {enc : TypeId × Value → H} {P : Program} {W : World}

theorem arg_rd {base n : Nat} {t : TypeId} {v : Value} {d : DataW H} {ps : List MemPlace} {sh : Sh} (hval : Value.okWide P W .any base t v) (h : DataW.Trod enc P W 0 (fun _ => true) true t v d ps) (hs : shOf P n t = some sh) : ∃ x : D, RdD W (Sall W) v x ∧ ArgSh sh x := by
  obtain ⟨fuel, hf⟩ := h
  obtain ⟨ds, h1, h2, h3⟩ := trod_sh fuel hf hs
  -- a value of one cell
  have one : v.cells = #[v] → sh.isSt = false → ∃ x : D, RdD W (Sall W) v x ∧ ArgSh sh x := by
    intro hc hst
    rw [hc] at h1 h3
    match ds, h1 with
    | [x], _ => exact ⟨x, (h3 0 v x rfl rfl).1, (fun hh => (by rw [hst] at hh; cases hh)), fun _ => h2⟩
  cases n with
  | zero => simp [shOf] at hs
  | succ n =>
    simp only [shOf] at hs
    split at hs
    · rename_i k ht
      cases hs
      obtain ⟨m, rfl⟩ := okWide_int ht hval
      exact one rfl rfl
    · rename_i ht
      cases hs
      obtain ⟨m, rfl⟩ := okWide_bool ht hval
      exact one rfl rfl
    · rename_i ht
      cases hs
      obtain ⟨m, rfl⟩ := okWide_string ht hval
      exact one rfl rfl
    · rename_i e ht
      obtain ⟨s, _, hs⟩ := Option.bind_eq_some_iff.1 hs
      split at hs
      · cases hs
        obtain ⟨a, len, cap, rfl⟩ := okWide_slice ht hval
        exact one rfl rfl
      · cases hs
    · rename_i fs ht
      obtain ⟨l, _, hs⟩ := Option.bind_eq_some_iff.1 hs
      split at hs
      · cases hs
        obtain ⟨cs, rfl, _⟩ := okWide_struct ht hval
        have hc : (Value.agg cs).cells = cs := rfl
        rw [hc] at h1 h3
        refine ⟨.agg ds, .agg (by rw [h1]; simp) (fun i y hy => ?_) fun i u y hu hy => (h3 i u y (by simpa using hu) hy).1, fun _ => ⟨ds, rfl, h2⟩, fun hh => by simp [Sh.isSt] at hh⟩
        have hi : i < cs.size := by
          have := (List.getElem?_eq_some_iff.1 hy).1
          rw [h1] at this
          simpa using this
        exact (h3 i cs[i] y (by simp [hi]) hy).2
      · cases hs
    · cases hs

theorem args_rd {base n : Nat} : ∀ {ts : List TypeId} {vs : List Value} {ds : List (DataW H)} {ps : List MemPlace} {shs : List Sh}, (∀ (j : Nat) t v, ts[j]? = some t → vs[j]? = some v → Value.okWide P W .any base t v) → DataW.TrodAll enc P W 0 (fun _ => true) true ts vs ds ps → ts.mapM (shOf P n) = some shs →
    vs.length = ts.length ∧ ds.length = ts.length ∧ ∃ xs : List D, xs.length = vs.length ∧ ArgsSh shs xs ∧ ∀ (i : Nat) (v : Value) (x : D), vs[i]? = some v → xs[i]? = some x → RdD W (Sall W) v x
  | [], vs, ds, ps, shs, _, h, hs => by
    obtain ⟨rfl, rfl, rfl⟩ := trodAll_nil h
    simp at hs
    subst hs
    exact ⟨rfl, rfl, [], rfl, rfl, by simp⟩
  | t :: ts, vs, ds, ps, shs, hv, h, hs => by
    obtain ⟨v, vs', d, ds', p, q, rfl, rfl, rfl, h0, h1⟩ := trodAll_cons h
    simp only [List.mapM_cons, Option.bind_eq_bind, Option.bind_eq_some_iff, Option.pure_def, Option.some.injEq] at hs
    obtain ⟨s, hs1, r, hs2, rfl⟩ := hs
    obtain ⟨x, k1, k2⟩ := arg_rd (hv 0 t v rfl rfl) h0 hs1
    obtain ⟨g1, g1', xs, g2, g3, g4⟩ := args_rd (fun j t v ht hv' => hv (j + 1) t v (by simpa using ht) (by simpa using hv')) h1 hs2
    refine ⟨by simp [g1], by simp [g1'], x :: xs, by simp [g2], ⟨x, xs, rfl, k2, g3⟩, fun i v' x' hv' hx' => ?_⟩
    cases i with
    | zero => simp at hv' hx'; subst hv' hx'; exact k1
    | succ i => exact g4 i v' x' (by simpa using hv') (by simpa using hx')

theorem trodAll_below {W' : World} (hl : laidOutB P = true) (hb : Below W.heap.size W W') : ∀ {ts : List TypeId} {vs : List Value} {ds : List (DataW H)} {ps : List MemPlace}, (∀ t, t ∈ ts → P.readableRec t = true ∧ t < P.types.size) → (∀ p, p ∈ ps → p.block < W.heap.size) → DataW.TrodAll enc P W 0 (fun _ => true) true ts vs ds ps →
    DataW.TrodAll enc P W' 0 (fun b => decide (b < W.heap.size)) true ts vs ds ps
  | [], vs, ds, ps, _, _, h => by
    obtain ⟨rfl, rfl, rfl⟩ := trodAll_nil h
    exact trodAll_mk0
  | t :: ts, vs, ds, ps, ht, hp, h => by
    obtain ⟨v, vs', d, ds', p, q, rfl, rfl, rfl, h0, h1⟩ := trodAll_cons h
    exact trodAll_cons_mk (Below.trod hl (ht t (by simp)).1 (ht t (by simp)).2 h0 hb fun x hx => hp x (by simp [hx])) (trodAll_below hl hb (fun t' ht' => ht t' (by simp [ht'])) (fun x hx => hp x (by simp [hx])) h1)

/-- **A law's contract**, as its statement wants it. -/
theorem law_contract {f : FuncId} {fn : Func} {s : ChangeSpec} {tb : TypeId} {n : Nat} {shs : List Sh} (hlaid : laidOutB P = true) (hread : (fn.params.toList.all fun t => P.readableRec t && decide (t < P.types.size)) = true) (hvars : s.vars = []) (hres : fn.resultTypes = #[tb]) (htb : P.underlying tb = some .bool)
    (hshape : fn.params.toList.mapM (shOf P n) = some shs) (hfn : ∀ ds : List (DataW H), ds.length = fn.params.toList.length → s.fn H ds = { results := [.lit (.bool true)], args := ds }) (hlaw : ∀ dd : List D, ArgsSh shs dd → ∃ h', FSpecWO P f (.st []) dd (.ret (.v (.bool true))) h')
    (base : Nat) (args : Array Value) (ds gs : List (DataW H)) (before : List MemPlace) (hval : ∀ (j : Nat) t v, fn.params[j]? = some t → args[j]? = some v → Value.okWide P W .any base t v) (hW : DataW.Whole enc P fn.params.toList s.vars false W args.toList ds gs before) :
    Calls P f args W fun e W' => ∃ v, e = .returned v ∧ s.post enc P fn false true false false W args v W' := by
  have hW' := hW
  obtain ⟨p, q, hA, hV, rfl, hfz, hnd⟩ := hW
  rw [hvars] at hV
  obtain ⟨rfl, rfl⟩ := trodVars_none hV
  obtain ⟨h1, h1', xs, h2, h3, h4⟩ := args_rd (fun j t v ht hv => hval j t v (by simpa using ht) (by simpa using hv)) hA hshape
  obtain ⟨h', hspec⟩ := hlaw xs h3
  have hlt : ∀ x, x ∈ p → x.block < W.heap.size := fun x hx => by simpa using hW'.lt x (by simp [hx])
  refine (hspec W (Sall W) (fun _ => False) [] args rfl ⟨rfl, fun i e sz cs hi => by simp at hi, fun b off hf => hf.elim, fun i kvs hi => by simp at hi, fun i j x y hi => by simp at hi⟩ (fun l rec hl => by cases hl) (fun _ hf => hf.elim) (fun _ _ h => h) (by simpa using h2.symm) (fun i v x hv hx => h4 i v x (by simpa using hv) hx)).mono ?_
  rintro e W' ⟨v, S', foot', bs', ⟨rfl, hr⟩, _, _, _, _, hos, htp, hout, hsz, hold, _, _, _⟩
  have hv := hr.v_eq
  subst hv
  have hb : Below W.heap.size W W' := ⟨hos, htp, hout, hsz, fun k hk => hold k hk fun h => h⟩
  refine ⟨_, rfl, ds, [], p ++ [], [], p, [], hW', ?_, ?_, ?_, hb.frame _, fun h => by cases h⟩
  · rw [hfn _ (by simpa using h1'), hres]
    exact trodAll_mk1 (shut_bool htb true)
  · rw [hfn _ (by simpa using h1')]
    simp only [List.append_nil]
    exact trodAll_below hlaid hb (fun t ht => by
      have := List.all_eq_true.1 hread t ht
      simpa using this) hlt hA
  · rw [hfn _ (by simpa using h1'), hvars]
    rfl

end
end Go.Am
