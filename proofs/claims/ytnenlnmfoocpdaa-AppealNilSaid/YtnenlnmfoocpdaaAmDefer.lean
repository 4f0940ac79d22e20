/-
  Deferred functions that recover.
-/
import Derived.Test.YtnenlnmfoocpdaaAmLocal
import Derived.Defers
import Derived.Recover
set_option linter.unusedSimpArgs false
set_option linter.unusedVariables false
namespace Go.Am

/-- what 'recover' yields -/
def recD (m : Option D) : D := match m with | none => .v .nilIface | some d => d

/-- the slots that get what 'recover' yields, and the code behind it -/
def recSplit : Code → Option (Nat × Nat × Code)
  | .seq (.region _ ops false) rest => match ops.toList with
    | [o0, o1] => (match o0.op, o0.guard, o0.dst, o1.op, o1.guard, o1.dst with
      | .call { callee := .builtin .recover, args := _, argTypes := _ }, none, some d, .assign (.tmp t), none, some d' => if t = d then some (d, d', rest) else none
      | _, _, _, _, _, _ => none)
    | _ => none
  | _ => none

/-- A deferred function that begins with 'recover'. -/
def compileR (P : Program) (cf : StCfg) (fn : Func) : Option T :=
  match fn.body with
  | none => none
  | some c => match recSplit c with
    | none => none
    | some (d, d', rest) => if noRange rest = false then none else if fn.ntmps < nParams fn ∨ HID < fn.ntmps ∨ fn.ntmps ≤ d ∨ fn.ntmps ≤ d' then none else
      compile P (retAll P fn.results.toList) rest 0 (nParams fn + 2) (((startState cf fn.ntmps (nParams fn) (paramOnes P fn)).put (some d) (.e (.sym (nParams fn + 1)) true)).put (some d') (.e (.sym (nParams fn + 1)) true)) [] fun _ _ σ => (retAll P fn.results.toList σ).map T.ret

section
variable {P : Program}

/-- how a frame and a world begin -/
theorem start_rep {cf : StCfg} {fn : Func} {ds bs : List D} {w : World} {S : Sets} {foot may : Nat → Prop} {vs : Array Value} (hfit : argsFit (paramOnes P fn) ds = true) (hst : StOk w S foot bs) (hhold : HoldOk w S foot) (hmay2 : ∀ b, may b → foot b) (hfl : ∀ b, foot b → b < w.heap.size) (hS : ∀ b o, S b o → b < w.heap.size) (hvl : vs.size = ds.length) (hrd : ∀ (i : Nat) (v : Value) (x : D), vs[i]? = some v → ds[i]? = some x → RdD w S v x)
    (hmay : ∀ b, foot b → cf.ro = true ∨ may b) :
    Rep w ⟨may, S, foot, []⟩ w { tmps := vs ++ Array.replicate (fn.ntmps - vs.size) undef, defers := [] } (startState cf fn.ntmps (nParams fn) (paramOnes P fn)) (ds ++ [.st bs]) { blk := fun _ => 0, val := fun _ => undef, S := S, foot := foot } := by
  obtain ⟨hbl, hbo⟩ := argsFit_spec hfit
  have hpl : (paramOnes P fn).length = nParams fn := by simp [paramOnes, nParams]
  have hobj : ∀ o x, (startState cf fn.ntmps (nParams fn) (paramOnes P fn)).obj o = some x → o = HID ∧ x = .store cf (.sym (nParams fn)) := by
    intro o x hx
    simp only [SState.obj, startState, List.getD_eq_getElem?_getD, List.getElem?_replicate] at hx
    split at hx
    · cases hx; exact ⟨by assumption, rfl⟩
    · split at hx <;> simp at hx
  refine ⟨by simp [startState, startTmps_length, hvl, hbl], fun t => ?_, fun o x hx => ?_, fun o o' x x' b hx hx' _ _ => ?_, fun o x b hx hb => ?_, hS, rfl, rfl, rfl, Nat.le_refl _, fun _ _ _ => rfl, Sets.le_refl _, fun _ _ h => .inl h, rfl, fun l rec hl => ⟨(hhold l rec hl).1, fun hm => (hhold l rec hl).2 (hmay2 l hm), (hhold l rec hl).2⟩⟩
  · simp only [SState.tmp, startState, List.getD_eq_getElem?_getD]
    rcases Nat.lt_or_ge t (paramOnes P fn).length with ht | ht
    · rw [List.getElem?_append_left (by rw [startTmps_length]; exact ht)]
      cases hs : (startTmps 0 (paramOnes P fn))[t]? with
      | none => exact .junk
      | some c =>
        obtain ⟨b, hb, rfl⟩ := startTmps_get hs
        have htd : t < ds.length := by omega
        have htv : t < vs.size := by omega
        simp only [Option.getD_some, Nat.zero_add]
        have hval : (vs ++ Array.replicate (fn.ntmps - vs.size) undef).getD t undef = vs[t] := by
          rw [Array.getD_eq_getD_getElem?, Array.getElem?_append_left htv, Array.getElem?_eq_getElem htv]
          rfl
        rw [hval]
        exact .e (d := ds[t]) (by simp [E.eval, List.getElem?_append_left htd, htd]) (hrd t _ _ (Array.getElem?_eq_getElem htv) (List.getElem?_eq_getElem htd)) fun hbt => hbo t b _ hb (List.getElem?_eq_getElem htd) hbt
    · rw [List.getElem?_append_right (by rw [startTmps_length]; exact ht), List.getElem?_replicate]
      split <;> exact .junk
  · obtain ⟨rfl, rfl⟩ := hobj o x hx
    refine ⟨bs, ?_, hst, rfl⟩
    simp only [E.eval]
    rw [List.getElem?_append_right (by omega)]
    simp [show nParams fn - ds.length = 0 from by omega]
  · obtain ⟨rfl, _⟩ := hobj o x hx
    obtain ⟨rfl, _⟩ := hobj o' x' hx'
    rfl
  · obtain ⟨rfl, rfl⟩ := hobj o x hx
    exact ⟨(hmay b hb).imp (fun e => ⟨e, hb⟩) .inr, hfl b hb⟩

/-- what a returning frame yields -/
theorem ret_end {fn : Func} {w : World} {S : Sets} {foot may : Nat → Prop} {σ : SState} {x : E} {env : List D} {ρ : Rho} {a' : Act} {w' : World} {d' : D} (hmay2 : ∀ b, may b → foot b) (hx : retAll P fn.results.toList σ = some x) (hr : Rep w ⟨may, S, foot, []⟩ w' a' σ env ρ) (he : x.eval env = some d') :
    a'.defers = [] ∧ ∃ (v : Value) (d0 : D) (bs' : List D) (S' : Sets) (foot' : Nat → Prop), (results fn a'.tmps).run P w' = .ok v w' ∧ d' = .tup [d0, .st bs'] ∧ RdD w' S' v d0 ∧ Left w S foot may w' S' foot' bs' := by
  unfold retAll at hx
  split at hx
  · rename_i y cf' hh hy hhs
    cases hx
    have hob : σ.obj HID = some (.store cf' hh) := by unfold SState.obj; rw [if_pos rfl]; exact hhs
    obtain ⟨bs', hb1, hst', _⟩ := hr.objs _ _ hob
    simp only [E.eval, hb1, Option.bind_some, D.tcons, Option.bind_eq_some_iff] at he
    obtain ⟨d2, h2, he⟩ := he
    obtain ⟨v, h1, h3⟩ := retOf_rd hr hy h2
    cases he
    exact ⟨hr.nod, v, d2, bs', Sfin ρ σ, ρ.foot, h1, rfl, h3, left_fin hr hst' hob hmay2⟩
  · cases hx

/-- **A deferred function that recovers.** -/
theorem fspecD {cf : StCfg} {f : FuncId} {fn : Func} {t : T} {cs : List D} {bs bs' : List D} {m : Option D} {d0 : D} (hf : P.funcs[f]? = some fn) (hc : compileR P cf fn = some t) (hfit : argsFit (paramOnes P fn) cs = true) (hm : (recD m).one = true) (hden : den P t (cs ++ [.st bs, recD m]) fun s => s = .ret (.tup [d0, .st bs'])) :
    FSpecD P f (.st bs) cs m (.st bs') := by
  intro w S foot bs0 vs u hb hst hhold hfl hS hvl hrd hu
  cases hb
  unfold compileR at hc
  split at hc
  · cases hc
  rename_i c hbody
  split at hc
  · cases hc
  rename_i d d' rest hsplit
  split at hc
  · cases hc
  rename_i hnr
  have hnr : noRange rest = true := by simpa using hnr
  split at hc
  · cases hc
  rename_i hnt
  rw [not_or, not_or, not_or] at hnt
  obtain ⟨hn1, hn2, hn3, hn4⟩ := hnt
  obtain ⟨hbl, hbo⟩ := argsFit_spec hfit
  have hpl : (paramOnes P fn).length = nParams fn := by simp [paramOnes, nParams]
  -- the form of the code
  obtain ⟨id, ops, o0, o1, as, ts, rfl, hops, h00, h01, h02, h10, h11, h12⟩ : ∃ id ops o0 o1 as ts, c = .seq (.region id ops false) rest ∧ ops.toList = [o0, o1] ∧ o0.op = .call { callee := .builtin .recover, args := as, argTypes := ts } ∧ o0.guard = none ∧ o0.dst = some d ∧ o1.op = .assign (.tmp d) ∧ o1.guard = none ∧ o1.dst = some d' := by
    unfold recSplit at hsplit
    split at hsplit
    · rename_i id ops rest'
      split at hsplit
      · rename_i o0 o1 hops
        split at hsplit
        · rename_i as ts d1 t1 d2 g1 g2 g3 g4 g5 g6
          split at hsplit
          · rename_i htd
            cases hsplit
            exact ⟨id, ops, o0, o1, as, ts, rfl, hops, g1, g2, g3, by rw [g4, htd], g5, g6⟩
          · cases hsplit
        · cases hsplit
      · cases hsplit
    · cases hsplit
  have hoa : ops = #[o0, o1] := by rw [← Array.toArray_toList (xs := ops), hops]
  subst hoa
  have hstart := start_rep (may := foot) (cf := cf) hfit hst hhold (fun _ h => h) hfl hS hvl hrd fun _ h => .inr h
  have henv : cs ++ [.st bs, recD m] = (cs ++ [.st bs]) ++ [recD m] := by simp
  -- what 'recover' yields
  have hrec : ∃ v u', RdD w S v (recD m) ∧ settle u' = .returning ∧ ∀ (c₀ : Frame) (fs : List Frame), c₀.mode = u → (match recoverD (c₀ :: fs) with | some (v', cs') => v' = v ∧ cs' = { c₀ with mode := u' } :: fs | none => v = .nilIface ∧ u' = u) := by
    cases m with
    | none =>
      refine ⟨.nilIface, u, .v rfl, ?_, fun c₀ fs hm => ?_⟩
      · have hu : u = .returning := hu
        rw [hu]; rfl
      · have hu : u = .returning := hu
        subst hu
        simp [recoverD, hm]
    | some d =>
      obtain ⟨v, hv, hu⟩ := hu
      refine ⟨v, .panicking [{ v, recovered := true }], hv, rfl, fun c₀ fs hm => ?_⟩
      subst hu
      simp [recoverD, hm]
  obtain ⟨v, u', hv, hsettle, hrec⟩ := hrec
  refine callsD_of_wpS hf hbody fun c₀ fs hmode => ?_
  have hlen : (startState cf fn.ntmps (nParams fn) (paramOnes P fn)).tmps.length = fn.ntmps := by simp [startState, startTmps_length, hpl]; omega
  have hrep0 := hstart.env (prefix_append _ [recD m])
  rw [← henv] at hrep0
  have hsv : ∀ {ρ : Rho}, RdD w ρ.S v (recD m) → SRd w ρ (cs ++ [.st bs, recD m]) v (.e (.sym (nParams fn + 1)) true) := by
    intro ρ hvv
    refine .e (d := recD m) ?_ hvv fun _ => hm
    simp only [E.eval]
    rw [List.getElem?_append_right (by omega)]
    simp [show nParams fn + 1 - cs.length = 1 from by omega]
  have hrep1 := (hrep0.put (dst := some d) (v := v) (fun d2 e => by cases e; rw [hlen]; exact Nat.lt_of_not_le hn3) (hsv hv)).put (dst := some d') (v := v) (fun d2 e => by cases e; simp only [SState.put, List.length_set]; rw [hlen]; exact Nat.lt_of_not_le hn4) (hsv hv)
  -- the code behind it
  have hlens : Lens fn.ntmps (((startState cf fn.ntmps (nParams fn) (paramOnes P fn)).put (some d) (.e (.sym (nParams fn + 1)) true)).put (some d') (.e (.sym (nParams fn + 1)) true)) := ⟨by simp [SState.put, hlen], by simp [SState.put, startState]⟩
  have hcode := compile_sound (P := P) (N := fn.ntmps) rest (B := fun w1 X1 => w1 = w ∧ X1 = ⟨foot, S, foot, []⟩) (rd := none) (nd := 0) (RetOk := fun w' a' d' => a'.defers = [] ∧ ∃ (v : Value) (d0 : D) (bs' : List D) (S' : Sets) (foot' : Nat → Prop), (results fn a'.tmps).run P w' = .ok v w' ∧ d' = .tup [d0, .st bs'] ∧ RdD w' S' v d0 ∧ Left w S foot foot w' S' foot' bs')
    (rv := retAll P fn.results.toList) (fun w1 X1 hB σ x hx env ρ a' w' d' hr he => by obtain ⟨rfl, rfl⟩ := hB; exact ret_end (fun _ h => h) hx hr he) (fun l e => by cases e) (.inl hnr) 0 _ [] _ t (cs ++ [.st bs, recD m]) (by rw [show (cs ++ [D.st bs, recD m]).length = nParams fn + 2 from by simp; omega]; exact hc) _ _ w w _ _ ⟨rfl, rfl⟩ hden hrep1 hlens (fun id e he => by simp [exOf] at he)
  have hcode := wpIn_wide.1 hcode
  have hfin : ∀ (d1 : D), (.ret d1 : Sig) = .ret (.tup [d0, .st bs']) → ∀ (w' : World) (a' : Act), (a'.defers = [] ∧ ∃ (v : Value) (d0 : D) (bs' : List D) (S' : Sets) (foot' : Nat → Prop), (results fn a'.tmps).run P w' = .ok v w' ∧ d1 = .tup [d0, .st bs'] ∧ RdD w' S' v d0 ∧ Left w S foot foot w' S' foot' bs') →
      a'.defers = [] ∧ ∃ u'', { c₀ with mode := u' } :: fs = { c₀ with mode := u'' } :: fs ∧ ∃ v, (results fn a'.tmps).run P w' = .ok v w' ∧ ∃ (v1 : Value) (S' : Sets) (foot' : Nat → Prop) (bs1 : List D), Ending.returned v = .returned v1 ∧ settle u'' = .returning ∧ D.st bs' = .st bs1 ∧ Left w S foot foot w' S' foot' bs1 := by
    rintro d1 h1 w' a' ⟨g1, v2, d2, bs2, S', foot', g2, rfl, g3, g4⟩
    cases h1
    exact ⟨g1, u', rfl, v2, g2, v2, S', foot', bs', rfl, hsettle, rfl, g4⟩
  refine wpS_seq (wpS_region ?_)
  rw [show List.range (#[o0, o1] : Array Oper).size = [0, 1] from rfl]
  have hw0 : ∀ tm, Region.wanted o0 tm = true := fun tm => by simp [Region.wanted, h01]
  have hw1 : ∀ tm, Region.wanted o1 tm = true := fun tm => by simp [Region.wanted, h11]
  have hr0 : ∀ a : Act, (execOp a.eval o0).run P w = .ok .recover w := by
    intro a
    unfold execOp
    rw [h00]
    rfl
  have hr1 : ∀ a : Act, (execOp a.eval o1).run P w = .ok (.value (a.eval (.tmp d))) w := by
    intro a
    unfold execOp
    rw [h10]
    rfl
  have hbehind : ∀ cs', cs' = ({ c₀ with mode := u' } : Frame) :: fs → wpOpsS P #[o0, o1] (Exit.thenS (rest.wpS P (bodyPostS P fn c₀ fs fun e u' w' => ∃ (v : Value) (S' : Sets) (foot' : Nat → Prop) (bs1 : List D), e = .returned v ∧ settle u' = .returning ∧ D.st bs' = .st bs1 ∧ Left w S foot foot w' S' foot' bs1)) (bodyPostS P fn c₀ fs fun e u' w' => ∃ (v : Value) (S' : Sets) (foot' : Nat → Prop) (bs1 : List D), e = .returned v ∧ settle u' = .returning ∧ D.st bs' = .st bs1 ∧ Left w S foot foot w' S' foot' bs1)) [1] (({ tmps := vs ++ Array.replicate (fn.ntmps - vs.size) undef, defers := [] } : Act).put o0.dst v) cs' w := by
    rintro cs' rfl
    simp only [wpOpsS, show (#[o0, o1] : Array Oper)[1]? = some o1 from rfl, hw1, if_true, hr1, Oper.upon_value]
    have hev : (({ tmps := vs ++ Array.replicate (fn.ntmps - vs.size) undef, defers := [] } : Act).put o0.dst v).eval (.tmp d) = v := by
      rw [h02]
      show (({ tmps := vs ++ Array.replicate (fn.ntmps - vs.size) undef, defers := [] } : Act).put (some d) v).tmps.getD d undef = v
      rw [Act.getD_put _ _ _ (by simp; omega), if_pos rfl]
    rw [hev, h02, h12]
    refine wpS_of_wp (wp_mono hcode fun e a' w' h => ?_)
    cases e with
    | normal =>
      obtain ⟨w1, X1, env', σ', ρ', t', ⟨hw1, hX1⟩, _, hk, hd', hr', _⟩ := h
      rw [hw1, hX1] at hr'
      obtain ⟨x, hx, rfl⟩ := Option.map_eq_some_iff.1 hk
      obtain ⟨d1, he, hq⟩ := hd'
      exact hfin d1 hq w' a' (ret_end (fun _ h => h) hx hr' he)
    | ret =>
      obtain ⟨d1, hq, h1⟩ := h
      exact hfin d1 hq w' a' h1
    | exit id => obtain ⟨_, _, e, _, _, _, he, _⟩ := h; simp [exOf] at he
    | goto l => exact h.elim
    | panic c =>
      obtain ⟨_, _, σ, env, ρ, v, d, bs', _, rfl, hr, hrd, hst', hcf, _, _, hq⟩ := h
      cases hq
    | outgrown => exact h.elim
  rw [wpOpsS]
  simp only [show (#[o0, o1] : Array Oper)[0]? = some o0 from rfl, hw0, if_true, hr0]
  have hrec := hrec c₀ fs hmode
  split
  · rename_i v' cs' hreq
    rw [hreq] at hrec
    obtain ⟨rfl, rfl⟩ := hrec
    exact hbehind _ rfl
  · rename_i hreq
    rw [hreq] at hrec
    obtain ⟨rfl, hu'⟩ := hrec
    exact hbehind (c₀ :: fs) (by rw [hu', ← hmode])

end
end Go.Am
