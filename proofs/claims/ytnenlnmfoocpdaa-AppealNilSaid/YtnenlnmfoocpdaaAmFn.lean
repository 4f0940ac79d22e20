/-
  A whole function: its contract, out of the meaning of the text that it was turned into.
-/
import Derived.Test.YtnenlnmfoocpdaaAmSound
set_option linter.unusedSimpArgs false
set_option linter.unusedVariables false
namespace Go.Am

/-- what a result is, as data: a row of the call's own is handed on -/
def retSV (σ : SState) : SV → Option E
  | .slc o => match σ.obj o with
    | some (.row x _) => some x
    | _ => none
  | sv => sv.toE

def retVar (P : Program) (σ : SState) : ResultVar → Option E
  | .tmp t => retSV σ (σ.tmp t)
  | .cell t ty => match σ.tmp t with
    | .addr o off => match σ.obj o, aggT P ty, szT P ty with
      | some (.box cs), some true, some n => if off + n ≤ cs.length then (SV.agg ((cs.drop off).take n)).toE else none
      | some (.box cs), some false, _ => (cs[off]?).bind (retSV σ)
      | _, _, _ => none
    | .e p _ => match σ.hs, aggT P ty, szT P ty with
      | some (.store _ h), some agg, some n => some (.ld agg n h p)
      | _, _, _ => none
    | _ => none

def retVars (P : Program) (σ : SState) : List ResultVar → Option E
  | [] => some .tnil
  | r :: rs => match retVar P σ r, retVars P σ rs with
    | some x, some y => some (.tcons x y)
    | _, _ => none

def retOf (P : Program) (rs : List ResultVar) (σ : SState) : Option E :=
  match rs with
  | [r] => retVar P σ r
  | rs => retVars P σ rs

/-- the cells that nobody writes any more, once the call is over -/
def Sfin (ρ : Rho) (σ : SState) : Sets := ρ.S.or fun b _ => ∃ o x sz, σ.obj o = some (.row x sz) ∧ ρ.blk o = b

section
variable {P : Program} {w w0 : World} {X : Ent} {a : Act} {σ : SState} {env : List D} {ρ : Rho}

theorem RdD.fin {v : Value} {d : D} (h : RdD w ρ.S v d) : RdD w (Sfin ρ σ) v d := h.keep (Keeps.refl _ _) (ρ.S.le_or _)

theorem row_rd {o : Nat} {x : E} {sz : Nat} (ho : σ.obj o = some (.row x sz)) (h : ObjOk w ρ env o (.row x sz)) : ∃ d, x.eval env = some d ∧ RdD w (Sfin ρ σ) (ρ.val o) d := by
  obtain ⟨vs, ty, es, hh, hx, hz, hl, hr, hv, hm, hS⟩ := h
  refine ⟨_, hx, ?_⟩
  rw [hv]
  refine .lst (size := sz) (val := fun i j => vs.getD (i * sz + j) undef) rfl (Nat.le_refl _) hm hz (fun i e j d he hd => (hr i e j d he hd).1) (fun i e j d he hd => .inr ⟨o, x, sz, ho, rfl⟩) (fun i e j d he hd => ?_) fun i e j d he hd => ?_
  · obtain ⟨_, v, hv', _⟩ := hr i e j d he hd
    rw [Nat.zero_add, cell_heap hh, hv', Array.getD_eq_getD_getElem?, hv']
    rfl
  · obtain ⟨_, v, hv', hrd⟩ := hr i e j d he hd
    rw [Array.getD_eq_getD_getElem?, hv']
    exact hrd.fin

theorem retSV_rd {sv : SV} {x : E} {v : Value} (h : retSV σ sv = some x) (hr : SRd w ρ env v sv) (hobj : ∀ o y, σ.obj o = some y → ObjOk w ρ env o y) : ∃ d, x.eval env = some d ∧ RdD w (Sfin ρ σ) v d := by
  unfold retSV at h
  split at h
  · rename_i o
    split at h
    · rename_i y sz ho
      cases h
      rw [hr.slc_inv]
      exact row_rd ho (hobj o _ ho)
    · cases h
  · obtain ⟨d, hd, hrd⟩ := SV.toE_rd h hr
    exact ⟨d, hd, hrd.fin⟩

/-- one result -/
def resultOf (tmps : Array Value) : ResultVar → Sem Value
  | .tmp t => pure (tmps.getD t undef)
  | .cell a t => do loadVar t (← asAddr (tmps.getD a undef))

theorem retVar_rd (h : Rep w0 X w a σ env ρ) {r : ResultVar} {x : E} {d : D} (hx : retVar P σ r = some x) (he : x.eval env = some d) : ∃ v, (resultOf a.tmps r).run P w = .ok v w ∧ RdD w (Sfin ρ σ) v d := by
  unfold retVar at hx
  split at hx
  · rename_i t
    obtain ⟨d', hd, hrd⟩ := retSV_rd hx (h.tmps t) h.objs
    rw [he] at hd
    cases hd
    exact ⟨_, rfl, hrd⟩
  · rename_i t ty
    split at hx
    · rename_i o off ht
      have hslot := h.tmps t
      rw [ht] at hslot
      have hv := hslot.addr_inv
      have hrun : ∀ {v : Value}, (loadVar ty ⟨ρ.blk o, off, none⟩).run P w = .ok v w → (resultOf a.tmps (.cell t ty)).run P w = .ok v w := by
        intro v hl
        simp only [resultOf, hv, asAddr, Sem.run_bind, Sem.run_pure, Result.andThen_ok, hl]
      split at hx
      · rename_i cs n ho hg hn
        obtain ⟨vs, tyb, hh, hlen, hone, hr, _⟩ := h.objs o _ ho
        split at hx
        · rename_i hle
          have hs : SRd w ρ env (.agg ((vs.toList.drop off).take n).toArray) (.agg ((cs.drop off).take n)) := by
            refine .agg (by simp [hlen]) (fun i v hv => ?_) fun i v c hv hc => ?_
            · simp only [List.getElem?_toArray, List.getElem?_take] at hv
              split at hv
              · exact hone (off + i) v (by simpa using hv)
              · cases hv
            · simp only [List.getElem?_toArray, List.getElem?_take] at hv hc
              split at hv
              · rename_i hi
                rw [if_pos hi] at hc
                exact hr (off + i) v c (by simpa using hv) (by simpa using hc)
              · cases hv
          obtain ⟨d', hd, hrd⟩ := SV.toE_rd hx hs
          rw [he] at hd
          cases hd
          refine ⟨_, hrun (run_load_agg (vs := (vs.toList.drop off).take n) hg hn (by simp [hlen]; omega) fun j v hv => ?_), hrd.fin⟩
          rw [cell_heap hh]
          rw [List.getElem?_take] at hv
          split at hv
          · simpa using hv
          · cases hv
        · cases hx
      · rename_i cs ho hg
        obtain ⟨vs, tyb, hh, hlen, hone, hr, _⟩ := h.objs o _ ho
        obtain ⟨c, hc, hx⟩ := Option.bind_eq_some_iff.1 hx
        have hi : off < vs.size := by rw [hlen]; exact (List.getElem?_eq_some_iff.1 hc).1
        obtain ⟨d', hd, hrd⟩ := retSV_rd hx (hr off vs[off] c (by simp [hi]) hc) h.objs
        rw [he] at hd
        cases hd
        exact ⟨_, hrun (run_load_one (v := vs[off]) hg (by rw [cell_heap hh]; simp [hi])), hrd⟩
      · cases hx
    · rename_i p s ht
      have hslot := h.tmps t
      rw [ht] at hslot
      obtain ⟨dp, hp, hrp, _⟩ := hslot.e_inv
      split at hx
      · rename_i cf hh agg n hhs hg hn
        cases hx
        obtain ⟨bs, hb1, hst, _⟩ := h.objs HID (.store cf hh) (by unfold SState.obj; rw [if_pos rfl]; exact hhs)
        simp only [E.eval, hb1, hp, Option.bind_some] at he
        obtain ⟨b, off, u, hv, hrun, hru, _⟩ := ld_run hg hn hrp (.inr hst) he
        refine ⟨u, ?_, hru.fin⟩
        simp only [resultOf, hv, asAddr, Sem.run_bind, Sem.run_pure, Result.andThen_ok, hrun]
      · cases hx
    · cases hx

theorem retVars_rd (h : Rep w0 X w a σ env ρ) : ∀ {rs : List ResultVar} {x : E} {d : D}, retVars P σ rs = some x → x.eval env = some d → ∃ vs ds, (rs.mapM (resultOf a.tmps)).run P w = .ok vs w ∧ d = .tup ds ∧ vs.length = ds.length ∧ vs.length = rs.length ∧ ∀ (i : Nat) (v : Value) (d : D), vs[i]? = some v → ds[i]? = some d → RdD w (Sfin ρ σ) v d
  | [], x, d, hx, he => by
    simp [retVars] at hx
    subst hx
    simp [E.eval] at he
    exact ⟨[], [], rfl, he.symm, rfl, rfl, by simp⟩
  | r :: rs, x, d, hx, he => by
    simp only [retVars] at hx
    split at hx
    · rename_i y z hy hz
      cases hx
      simp only [E.eval, Option.bind_eq_some_iff] at he
      obtain ⟨d1, he1, d2, he2, he⟩ := he
      obtain ⟨v, h1, h3⟩ := retVar_rd h hy he1
      obtain ⟨vs, ds, h4, rfl, h6, h6', h7⟩ := retVars_rd h hz he2
      simp only [D.tcons] at he
      cases he
      refine ⟨v :: vs, d1 :: ds, by simp only [List.mapM_cons, Sem.run_bind, h1, Result.andThen_ok, h4, Sem.run_pure], rfl, by simp [h6], by simp [h6'], fun i v' d' hv hd => ?_⟩
      cases i with
      | zero => simp at hv hd; subst hv hd; exact h3
      | succ i => exact h7 i v' d' (by simpa using hv) (by simpa using hd)
    · cases hx

theorem results_run (fn : Func) (tmps : Array Value) {vs : List Value} (h : (fn.results.toList.mapM (resultOf tmps)).run P w = .ok vs w) : (results fn tmps).run P w = .ok (if h : vs.length = 1 then vs[0] else .tuple vs.toArray) w := by
  have he : results fn tmps = (do let vs ← fn.results.mapM (resultOf tmps); pure (if h : vs.size = 1 then vs[0] else .tuple vs)) := by
    unfold results
    congr 1
  rw [he, Array.mapM_eq_mapM_toList]
  simp only [Sem.run_bind, Sem.run_map, h, Result.andThen_ok, Sem.run_pure, List.size_toArray]
  congr 1

theorem retOf_rd (h : Rep w0 X w a σ env ρ) {fn : Func} {x : E} {d : D} (hx : retOf P fn.results.toList σ = some x) (he : x.eval env = some d) : ∃ v, (results fn a.tmps).run P w = .ok v w ∧ RdD w (Sfin ρ σ) v d := by
  unfold retOf at hx
  split at hx
  · rename_i r hr
    obtain ⟨v, h1, h3⟩ := retVar_rd h hx he
    refine ⟨v, ?_, h3⟩
    have := results_run (P := P) (w := w) fn a.tmps (vs := [v]) (by rw [hr]; simp only [List.mapM_cons, List.mapM_nil, Sem.run_bind, h1, Result.andThen_ok, Sem.run_pure])
    simpa using this
  · rename_i hne
    obtain ⟨vs, ds, h1, rfl, h3, h3', h4⟩ := retVars_rd h hx he
    have := results_run (P := P) (w := w) fn a.tmps h1
    rw [dif_neg ?_] at this
    · exact ⟨_, this, .tup (by simpa using h3) fun i v d hv hd => h4 i v d (by simpa using hv) hd⟩
    · intro hl
      rw [hl] at h3'
      match hrs : fn.results.toList, h3' with
      | [r], _ => exact hne r hrs

end

/-- which parameters are of one cell -/
def paramOnes (P : Program) (fn : Func) : List Bool := (fn.params.toList.map fun t => decide (aggT P t = some false)) ++ List.replicate fn.nfree true

/-- parameters, and what is captured -/
def nParams (fn : Func) : Nat := fn.params.size + fn.nfree

def startTmps : Nat → List Bool → List SV
  | _, [] => []
  | i, b :: r => .e (.sym i) b :: startTmps (i + 1) r

def startState (cf : StCfg) (n np : Nat) (bs : List Bool) : SState := { tmps := startTmps 0 bs ++ List.replicate (n - bs.length) .junk, mem := List.replicate n none, hs := some (.store cf (.sym np)) }

/-- the results, and the store -/
def retAll (P : Program) (rs : List ResultVar) (σ : SState) : Option E :=
  match retOf P rs σ, σ.hs with
  | some x, some (.store _ h) => some (.tcons x (.tcons h .tnil))
  | _, _ => none

/-- A function, as a text of the small language. -/
def compileFn (P : Program) (cf : StCfg) (fn : Func) : Option T :=
  match fn.body with
  | none => none
  | some c => if fn.ntmps < nParams fn ∨ HID < fn.ntmps then none else compile P (retAll P fn.results.toList) c 0 (nParams fn + 1) (startState cf fn.ntmps (nParams fn) (paramOnes P fn)) [] fun _ _ σ => (retAll P fn.results.toList σ).map T.ret

/-- the arguments are of one cell where the parameters are -/
def argsFit : List Bool → List D → Bool
  | [], [] => true
  | b :: r, d :: s => (!b || d.one) && argsFit r s
  | _, _ => false

theorem argsFit_spec : ∀ {bs : List Bool} {ds : List D}, argsFit bs ds = true → bs.length = ds.length ∧ ∀ (i : Nat) (b : Bool) (d : D), bs[i]? = some b → ds[i]? = some d → b = true → d.one = true
  | [], [], _ => ⟨rfl, by simp⟩
  | [], _ :: _, h => by simp [argsFit] at h
  | _ :: _, [], h => by simp [argsFit] at h
  | b :: r, d :: s, h => by
    simp only [argsFit, Bool.and_eq_true, Bool.or_eq_true, Bool.not_eq_true'] at h
    obtain ⟨h1, h2⟩ := argsFit_spec h.2
    refine ⟨by simp [h1], fun i b' d' hb hd ht => ?_⟩
    cases i with
    | zero => simp at hb hd; subst hb hd; exact h.1.resolve_left (by simp [ht])
    | succ i => exact h2 i b' d' (by simpa using hb) (by simpa using hd) ht

theorem startTmps_get : ∀ {bs : List Bool} {k i : Nat} {c : SV}, (startTmps k bs)[i]? = some c → ∃ b, bs[i]? = some b ∧ c = .e (.sym (k + i)) b
  | [], _, _, _, h => by simp [startTmps] at h
  | b :: r, k, 0, c, h => by simp [startTmps] at h; exact ⟨b, rfl, h.symm⟩
  | b :: r, k, i + 1, c, h => by
    obtain ⟨b', h1, h2⟩ := startTmps_get (bs := r) (k := k + 1) (i := i) (by simpa [startTmps] using h)
    exact ⟨b', by simpa using h1, by rw [h2, show k + 1 + i = k + (i + 1) from by omega]⟩

theorem startTmps_length : ∀ (bs : List Bool) (k : Nat), (startTmps k bs).length = bs.length
  | [], _ => rfl
  | _ :: r, k => by simp [startTmps, startTmps_length r]

theorem left_fin {w w' : World} {a : Act} {σ : SState} {env : List D} {ρ : Rho} {S : Sets} {foot may : Nat → Prop} {dfs : List Deferred} {bs : List D} {cf : StCfg} {x : E} (h : Rep w ⟨may, S, foot, dfs⟩ w' a σ env ρ) (hst : StOk w' ρ.S ρ.foot bs) (hob : σ.obj HID = some (.store cf x)) (hmay2 : ∀ b, may b → foot b) : Left w S foot may w' (Sfin ρ σ) ρ.foot bs := by
  have h0 := left_of_rep h hst ⟨cf, x, hob⟩ hmay2
  have hnrow : ∀ b off, ρ.foot b → ¬ Sfin ρ σ b off := by
    intro b off hfb hs
    rcases hs with hs | ⟨o, x', sz, ho, hb⟩
    · exact hst.nos b off hfb hs
    · have := h.inj o HID _ _ b ho hob hb hfb
      subst this
      rw [hob] at ho
      cases ho
  refine ⟨?_, Sets.le_trans h.sub (ρ.S.le_or _), h.os, h.tape, h.output, h.grown, h.old, h0.ft, fun b o hs => ?_, fun b o hs => ?_⟩
  · refine ⟨hst.n, fun i e sz cs hi => ?_, hnrow, fun i kvs hi => ?_, hst.inj⟩
    · obtain ⟨hf', us, g1, g2, g3, g4, g5, g6⟩ := hst.cells i e sz cs hi
      exact ⟨hf', us, g1, g2, g3, g4, fun j u d hu hd => (g5 j u d hu hd).fin, fun off => hnrow _ off hf'⟩
    · obtain ⟨hf', es, clock, g1, g2, g3, g4⟩ := hst.maps i kvs hi
      refine ⟨hf', es, clock, g1, g2, fun off => hnrow _ off hf', fun j e kv he hkv => ?_⟩
      obtain ⟨dk, dv, g5, g6, g7⟩ := g4 j e kv he hkv
      exact ⟨dk, dv, g5, g6.fin, g7.fin⟩
  · rcases hs with hs | ⟨o', x', sz, ho, rfl⟩
    · exact h0.new b o hs
    · rcases (h.own o' _ _ ho rfl).1 with g | g | g
      · cases g.1
      · exact .inr (.inr g)
      · exact .inr (.inl g)
  · rcases hs with hs | ⟨o', x', sz, ho, rfl⟩
    · exact h.cells b o hs
    · exact (h.own o' _ _ ho rfl).2

/-- the ways in which a call ends -/
def EndsAs (Qd : D → D → Prop) (Qp : D → D → Prop) : Sig → Prop
  | .ret (.tup [d, st]) => Qd d st
  | .pan d st _ _ => Qp d st
  | _ => False

/-- A call's run, by the text's meaning. -/
theorem calls_of_den {P : Program} {cf : StCfg} {f : FuncId} {fn : Func} {t : T} {ds : List D} {bs : List D} {Qd Qp : D → D → Prop} (hf : P.funcs[f]? = some fn) (hc : compileFn P cf fn = some t) (hfit : argsFit (paramOnes P fn) ds = true) (hden : den P t (ds ++ [.st bs]) (EndsAs Qd Qp))
    {w : World} {S : Sets} {foot may : Nat → Prop} {vs : Array Value} (hst : StOk w S foot bs) (hhold : HoldOk w S foot) (hfl : ∀ b, foot b → b < w.heap.size) (hS : ∀ b o, S b o → b < w.heap.size) (hvl : vs.size = ds.length) (hrd : ∀ (i : Nat) (v : Value) (x : D), vs[i]? = some v → ds[i]? = some x → RdD w S v x)
    (hmay : ∀ b, foot b → cf.ro = true ∨ may b) (hmay2 : ∀ b, may b → foot b) :
    Calls P f vs w fun e w' => ∃ (o : Out) (v : Value) (S' : Sets) (foot' : Nat → Prop) (bs' : List D), (match o with | .ret d => Qd d (.st bs') | .pan d => Qp d (.st bs')) ∧ o.ends w' S' v e ∧ Left w S foot may w' S' foot' bs' := by
  obtain ⟨hbl, hbo⟩ := argsFit_spec hfit
  have hpl : (paramOnes P fn).length = nParams fn := by simp [paramOnes, nParams]
  unfold compileFn at hc
  split at hc
  · cases hc
  · rename_i c hbody
    split at hc
    · cases hc
    · rename_i hnt
      rw [not_or] at hnt
      refine (callsIn_wide (n := 0)).1 (callsIn_of_wp_marks (F := Fence.wide) hf hbody trivial ?_)
      show c.wpIn (FW none) 0 P _ _ _
      -- the start
      have hrep : Rep w ⟨may, S, foot, []⟩ w { tmps := vs ++ Array.replicate (fn.ntmps - vs.size) undef, defers := [] } (startState cf fn.ntmps (nParams fn) (paramOnes P fn)) (ds ++ [.st bs]) { blk := fun _ => 0, val := fun _ => undef, S := S, foot := foot } := by
        have hobj : ∀ o x, (startState cf fn.ntmps (nParams fn) (paramOnes P fn)).obj o = some x → o = HID ∧ x = .store cf (.sym (nParams fn)) := by
          intro o x hx
          simp only [SState.obj, startState, List.getD_eq_getElem?_getD, List.getElem?_replicate] at hx
          split at hx
          · cases hx; exact ⟨by assumption, rfl⟩
          · split at hx <;> simp at hx
        refine ⟨by simp [startState, startTmps_length, hvl, hbl], fun t => ?_, fun o x hx => ?_, fun o o' x x' b hx hx' _ _ => ?_, fun o x b hx hb => ?_, hS, rfl, rfl, rfl, Nat.le_refl _, fun _ _ _ => rfl, Sets.le_refl _, fun _ _ h => .inl h, rfl, fun l rec hl => ⟨(hhold l rec hl).1, fun hm => (hhold l rec hl).2 (hmay2 l hm), (hhold l rec hl).2⟩⟩
        · simp only [SState.tmp, startState, List.getD_eq_getElem?_getD]
          rcases Nat.lt_or_ge t (paramOnes P fn).length with ht | ht
          · rw [List.getElem?_append_left (by rw [startTmps_length]; exact ht)]
            cases hs : (startTmps 0 (paramOnes P fn))[t]? with
            | none => exact .junk
            | some c =>
              obtain ⟨b, hb, rfl⟩ := startTmps_get hs
              have htd : t < ds.length := by omega
              have htv : t < vs.size := by omega
              simp only [Option.getD_some, Nat.zero_add]
              have hval : (vs ++ Array.replicate (fn.ntmps - vs.size) undef).getD t undef = vs[t] := by
                rw [Array.getD_eq_getD_getElem?, Array.getElem?_append_left htv, Array.getElem?_eq_getElem htv]
                rfl
              rw [hval]
              exact .e (d := ds[t]) (by simp [E.eval, List.getElem?_append_left htd, htd]) (hrd t _ _ (Array.getElem?_eq_getElem htv) (List.getElem?_eq_getElem htd)) fun hbt => hbo t b _ hb (List.getElem?_eq_getElem htd) hbt
          · rw [List.getElem?_append_right (by rw [startTmps_length]; exact ht), List.getElem?_replicate]
            split <;> exact .junk
        · obtain ⟨rfl, rfl⟩ := hobj o x hx
          refine ⟨bs, ?_, hst, rfl⟩
          simp only [E.eval]
          rw [List.getElem?_append_right (by omega)]
          simp [show nParams fn - ds.length = 0 from by omega]
        · obtain ⟨rfl, _⟩ := hobj o x hx
          obtain ⟨rfl, _⟩ := hobj o' x' hx'
          rfl
        · obtain ⟨rfl, rfl⟩ := hobj o x hx
          exact ⟨(hmay b hb).imp (fun e => ⟨e, hb⟩) .inr, hfl b hb⟩
      -- the end
      have hmk : ∀ {w1 w' : World} {X1 : Ent} {a' : Act} {σ : SState} {env : List D} {ρ : Rho} {u : FrameMode} {R : Ending → World → Prop}, u ≠ .run → Ext w ⟨may, S, foot, []⟩ w1 X1 → Rep w1 X1 w' a' σ env ρ → (∀ w2, Rep w ⟨may, S, foot, X1.dfs⟩ w2 a' σ env ρ → (∀ b o, w2.cell? ⟨b, o, none⟩ = w'.cell? ⟨b, o, none⟩) → (∀ o x b, σ.obj o = some x → objBlk ρ o x b → w2.heap[b]? = w'.heap[b]?) → LeavesIn Fence.wide 0 P fn a'.tmps R [] u w2) → LeavesInM Fence.wide 0 P fn a'.tmps R a'.defers u w' := by
        intro w1 w' X1 a' σ env ρ u R hu hx hr h
        obtain ⟨cs, h1, h2, h3⟩ := hx.dfs
        have h0 := hx.rep hr hrep.hold
        rw [hr.nod, h1, List.append_nil]
        refine leaves_marks hu cs w' h2 (fun D hD => ?_) fun w2 hm => h w2 (Rep.marked hr h0 (fun D hD => ?_) hm) hm.cell fun o x b hx hb => hm.other b fun hD => ?_
        · obtain ⟨g1, g2, g3, g4⟩ := h3 D hD
          exact (hr.old D (Array.getElem?_eq_some_iff.1 g1).1 g2).trans g1
        · obtain ⟨g1, g2, g3, g4⟩ := h3 D hD
          exact ⟨(Array.getElem?_eq_some_iff.1 g1).1, g2, g3, g4⟩
        · obtain ⟨g1, g2, g3, g4⟩ := h3 b hD
          have := (Array.getElem?_eq_some_iff.1 g1).1
          rcases (hr.own o x b hx hb).1 with g | g | g
          · exact g3 g.2
          · omega
          · exact g2 g
      obtain ⟨R, hR⟩ : ∃ R : Ending → World → Prop, R = fun e w' => ∃ (o : Out) (v : Value) (S' : Sets) (foot' : Nat → Prop) (bs' : List D), (match o with | .ret d => Qd d (.st bs') | .pan d => Qp d (.st bs')) ∧ o.ends w' S' v e ∧ Left w S foot may w' S' foot' bs' := ⟨_, rfl⟩
      rw [← hR]
      have hend : ∀ (w1 : World) (X1 : Ent) (σ : SState) (x : E) (env : List D) (ρ : Rho) (a' : Act) (w' : World) (d' : D), Ext w ⟨may, S, foot, []⟩ w1 X1 → retAll P fn.results.toList σ = some x → Rep w1 X1 w' a' σ env ρ → x.eval env = some d' →
          ∃ d0 bs', d' = .tup [d0, .st bs'] ∧ (Qd d0 (.st bs') → LeavesInM Fence.wide 0 P fn a'.tmps R a'.defers .returning w') := by
        intro w1 X1 σ x env ρ a' w' d' hext hx hr he
        unfold retAll at hx
        split at hx
        · rename_i y cf' hh hy hhs
          cases hx
          have hob : σ.obj HID = some (.store cf' hh) := by unfold SState.obj; rw [if_pos rfl]; exact hhs
          obtain ⟨bs', hb1, _, _⟩ := hr.objs _ _ hob
          simp only [E.eval, hb1, Option.bind_some, D.tcons, Option.bind_eq_some_iff] at he
          obtain ⟨d2, h2, he⟩ := he
          cases he
          refine ⟨d2, bs', rfl, fun hq => hmk (by simp) hext hr fun w2 hr2 _ _ => ?_⟩
          obtain ⟨bs2, hb2, hst2, _⟩ := hr2.objs _ _ hob
          rw [hb1] at hb2
          cases hb2
          obtain ⟨v, h1, h3⟩ := retOf_rd hr2 hy h2
          refine ⟨v, h1, ?_⟩
          rw [hR]
          exact ⟨.ret d2, v, Sfin ρ σ, ρ.foot, bs', hq, ⟨rfl, h3⟩, left_fin hr2 hst2 hob hmay2⟩
        · cases hx
      have hlens : Lens fn.ntmps (startState cf fn.ntmps (nParams fn) (paramOnes P fn)) := ⟨by simp [startState, startTmps_length, hpl]; omega, by simp [startState]⟩
      have hs := compile_sound (P := P) (N := fn.ntmps) c (B := fun w1 X1 => Ext w ⟨may, S, foot, []⟩ w1 X1) (RetOk := fun w' a' d' => ∃ d0 bs', d' = .tup [d0, .st bs'] ∧ (Qd d0 (.st bs') → LeavesInM Fence.wide 0 P fn a'.tmps R a'.defers .returning w')) (rd := none) (nd := 0)
        (rv := retAll P fn.results.toList) (fun w1 X1 hB σ x hx env ρ a w' d hr he => hend w1 X1 σ x env ρ a w' d hB hx hr he) (fun l e => by cases e) (.inr (.inr fun _ _ _ _ h k => h.trans k)) 0 _ [] _ t (ds ++ [.st bs]) (by rw [List.length_append, ← hbl, hpl]; exact hc) _ _ w w ⟨may, S, foot, []⟩ _ (Ext.refl _ _) hden hrep hlens (fun id e he => by simp [exOf] at he)
      refine wpIn_mono hs fun e a' w' h => ?_
      cases e with
      | normal =>
        obtain ⟨w1, X1, env', σ', ρ', t', hext, _, hk, hd', hr', _⟩ := h
        obtain ⟨x, hx, rfl⟩ := Option.map_eq_some_iff.1 hk
        obtain ⟨d', he, hq⟩ := hd'
        obtain ⟨d0, bs', rfl, h3⟩ := hend w1 X1 σ' x env' ρ' a' w' d' hext hx hr' he
        exact h3 hq
      | ret =>
        obtain ⟨d', hq, d0, bs', rfl, h3⟩ := h
        exact h3 hq
      | exit id => obtain ⟨_, _, e, _, _, _, he, _⟩ := h; simp [exOf] at he
      | goto l => exact h.elim
      | panic c =>
        obtain ⟨w1, X1, σ, env, ρ, v, d, bs', hext, rfl, hr, hrd, hst', hcf, _, _, hq⟩ := h
        refine hmk (by simp) hext hr fun w2 hr2 hcell hblk => ?_
        show R _ w2
        rw [hR]
        obtain ⟨cf', hh, hob⟩ := hcf
        have hk : Keeps ρ.S w' w2 := fun b o _ => hcell b o
        have hst2 : StOk w2 ρ.S ρ.foot bs' := hst'.to ⟨fun _ _ h => h, rfl, fun _ => rfl, fun _ => rfl⟩ (fun _ _ h => h) (fun b hb => hblk HID _ b hob hb) fun v d i x _ _ h => h.keep hk (Sets.le_refl _)
        exact ⟨.pan d, v, ρ.S, ρ.foot, bs', hq, ⟨rfl, hrd.keep hk (Sets.le_refl _)⟩, left_of_rep hr2 hst2 ⟨cf', hh, hob⟩ hmay2⟩
      | outgrown => exact h.elim

/-- what the small language's text must end in, for an outcome and a store -/
def EndsIn (o : Out) (st : D) : Sig → Prop :=
  match o with
  | .ret d => fun s => s = .ret (.tup [d, st])
  | .pan d => fun s => ∃ sl kd, s = .pan d st sl kd

theorem EndsIn.as {o : Out} {st : D} {s : Sig} (h : EndsIn o st s) : EndsAs (fun d st' => o = .ret d ∧ st' = st) (fun d st' => o = .pan d ∧ st' = st) s := by
  cases o with
  | ret d => cases h; exact ⟨rfl, rfl⟩
  | pan d => obtain ⟨_, _, rfl⟩ := h; exact ⟨rfl, rfl⟩

/-- **The contract of a function that only reads the store.** -/
theorem fspecO {P : Program} {cf : StCfg} {f : FuncId} {fn : Func} {t : T} {ds : List D} {bs : List D} {o : Out} (hro : cf.ro = true) (hf : P.funcs[f]? = some fn) (hc : compileFn P cf fn = some t) (hfit : argsFit (paramOnes P fn) ds = true) (hden : den P t (ds ++ [.st bs]) (EndsIn o (.st bs))) :
    FSpecO P f (.st bs) ds o := by
  intro w S foot bs0 vs hb hst hhold hfl hS hvl hrd
  cases hb
  refine (calls_of_den (may := fun _ => False) hf hc hfit (den_mono (fun s hs => hs.as) hden) hst hhold hfl hS hvl hrd (fun _ _ => .inl hro) fun _ hf => hf.elim).mono ?_
  rintro e w' ⟨o', v, S', foot', bs', hq, hends, hl⟩
  have : o' = o ∧ bs' = bs := by cases o' <;> (obtain ⟨rfl, h2⟩ := hq; cases h2; exact ⟨rfl, rfl⟩)
  obtain ⟨rfl, rfl⟩ := this
  exact ⟨v, S', hends, ⟨hl.os, hl.tape, hl.output, hl.size, fun b hb => hl.old b hb fun hf => hf⟩, hl.le, by rw [hl.st.n, hst.n], fun b o hs => (hl.new b o hs).imp_right fun g => g.resolve_left fun hf => hf, hl.lt⟩

/-- **The contract of a function that writes the store.** -/
theorem fspecWO {P : Program} {cf : StCfg} {f : FuncId} {fn : Func} {t : T} {ds : List D} {bs bs' : List D} {o : Out} (hf : P.funcs[f]? = some fn) (hc : compileFn P cf fn = some t) (hfit : argsFit (paramOnes P fn) ds = true) (hden : den P t (ds ++ [.st bs]) (EndsIn o (.st bs'))) :
    FSpecWO P f (.st bs) ds o (.st bs') := by
  intro w S foot bs0 vs hb hst hhold hfl hS hvl hrd
  cases hb
  refine (calls_of_den (may := foot) hf hc hfit (den_mono (fun s hs => hs.as) hden) hst hhold hfl hS hvl hrd (fun _ h => .inr h) fun _ h => h).mono ?_
  rintro e w' ⟨o', v, S', foot', bs'', hq, hends, hl⟩
  have : o' = o ∧ bs'' = bs' := by cases o' <;> (obtain ⟨rfl, h2⟩ := hq; cases h2; exact ⟨rfl, rfl⟩)
  obtain ⟨rfl, rfl⟩ := this
  exact ⟨v, S', foot', _, hends, rfl, hl.st, fun b o hs => World.cell?_of_block (a := ⟨b, o, none⟩) (hl.old b (hS b o hs) fun hf => hst.nos b o hf hs), hl.le, hl.os, hl.tape, hl.output, hl.size, hl.old, hl.ft, hl.new, hl.lt⟩

end Go.Am
