/-
  Functions that defer another one, which may recover.
-/
import Derived.Test.YtnenlnmfoocpdaaAmDefer
set_option linter.unusedSimpArgs false
set_option linter.unusedVariables false
namespace Go.Am

/-- a region that defers a function, which has captured variables -/
def deferOps : Code → Option (FuncId × List Operand × Nat)
  | .region _ ops false => match ops.toList with
    | [o0, o1] => (match o0.op, o0.guard, o0.dst, o1.op, o1.guard, o1.dst with
      | .makeFunc (.func f) first caps, none, some t, .defer { callee := .value (.tmp t'), args := as, argTypes := _ }, none, none => if t = t' ∧ first.size = 0 ∧ as.size = 0 then some (f, caps.toList, t) else none
      | _, _, _, _, _, _ => none)
    | _ => none
  | _ => none

def slotAt : List Nat → Nat → Nat → Option Nat
  | [], _, _ => none
  | x :: r, t, i => if x = t then some i else slotAt r t (i + 1)

theorem slotAt_spec : ∀ {l : List Nat} {t i j : Nat}, slotAt l t i = some j → i ≤ j ∧ l[j - i]? = some t
  | [], _, _, _, h => by simp [slotAt] at h
  | x :: r, t, i, j, h => by
    simp only [slotAt] at h
    split at h
    · rename_i e; cases h; exact ⟨Nat.le_refl _, by simp [e]⟩
    · obtain ⟨h1, h2⟩ := slotAt_spec h
      refine ⟨by omega, ?_⟩
      rw [show j - i = (j - (i + 1)) + 1 from by omega]
      simpa using h2

/-- the results, out of the kept slots' pointers and the store that is put behind them -/
def resVarE (P : Program) (keep : List Nat) : ResultVar → Option E
  | .cell t ty => match slotAt keep t 0, aggT P ty, szT P ty with
    | some i, some agg, some n => some (.ld agg n (.sym keep.length) (.sym i))
    | _, _, _ => none
  | _ => none

def resVarsE (P : Program) (keep : List Nat) : List ResultVar → Option E
  | [] => some .tnil
  | r :: rs => match resVarE P keep r, resVarsE P keep rs with
    | some x, some y => some (.tcons x y)
    | _, _ => none

def resOfE (P : Program) (keep : List Nat) (rs : List ResultVar) : Option E :=
  match rs with
  | [r] => resVarE P keep r
  | rs => resVarsE P keep rs

def tupE : List E → E
  | [] => .tnil
  | x :: r => .tcons x (tupE r)

theorem tupE_eval {env : List D} : ∀ {l : List E} {d : D}, (tupE l).eval env = some d → ∃ kd, evalAll env l = some kd ∧ d = .tup kd
  | [], d, h => by simp [tupE, E.eval] at h; exact ⟨[], rfl, h.symm⟩
  | x :: r, d, h => by
    simp only [tupE, E.eval, Option.bind_eq_some_iff] at h
    obtain ⟨d1, h1, d2, h2, h3⟩ := h
    obtain ⟨kd, h4, rfl⟩ := tupE_eval h2
    simp only [D.tcons] at h3
    cases h3
    exact ⟨d1 :: kd, by simp [evalAll, h1, h4], rfl⟩

/-- where the function returns: the kept slots, the store -/
def rvB (keep : List Nat) (σ : SState) : Option E :=
  match keepE σ, σ.hs with
  | some ks, some (.store _ h) => if keepOf σ = keep then some (.tcons (tupE ks) (.tcons h .tnil)) else none
  | _, _ => none

def compileD (P : Program) (fn : Func) (keep : List Nat) : Code → Nat → SState → Option T
  | .seq x y, u, σ => match deferOps x with
    | some (f, caps, t) => if noRange y = false then none else (match toEAll (caps.map σ.opd), σ.hs, resOfE P keep fn.results.toList with
      | some cs, some (.store cf h), some res => if callable P f = true ∧ t < σ.tmps.length then
          (compile P (rvB keep) y 0 u (({ σ with hs := some (.store { cf with keep := keep } h) } : SState).put (some t) .junk) [] fun _ _ σ => (rvB keep σ).map T.ret).map (.dfr f keep cs res) else none
      | _, _, _ => none)
    | none => if noRange x = false then none else compile P (retAll P fn.results.toList) x 0 u σ [] fun _ u σ => compileD P fn keep y u σ
  | _, _, _ => none

/-- A function that defers another one. -/
def compileDefer (P : Program) (cf : StCfg) (fn : Func) (keep : List Nat) : Option T :=
  match fn.body with
  | none => none
  | some c => if fn.ntmps < nParams fn ∨ HID < fn.ntmps then none else compileD P fn keep c (nParams fn + 1) (startState cf fn.ntmps (nParams fn) (paramOnes P fn))

section
variable {P : Program}

theorem callFunc_run {f : FuncId} {vals : Array Value} {w : World} (hcl : callable P f = true) : (invoke (.fn (.func f) vals) #[]).run P w = .ok (.enter f vals) w := by
  unfold callable at hcl
  split at hcl
  · rename_i fn hf
    simp only [Bool.and_eq_true, Bool.not_eq_true', Option.isSome_iff_ne_none] at hcl
    have hbn : fn.body.isNone = false := by
      cases hb : fn.body with
      | none => exact absurd hb hcl.2
      | some _ => rfl
    simp only [invoke, Sem.run_bind, Sem.run_pure, Result.andThen_ok, callFunc, run_program, hf, hcl.1, hbn, Bool.false_eq_true, if_false]
    simp
  · cases hcl

theorem resVarE_rd {w : World} {S : Sets} {foot : Nat → Prop} {bs : List D} {a : Act} {keep : List Nat} {kd : List D} (hst : StOk w S foot bs) (hk : KeepRd w S a keep kd) {r : ResultVar} {x : E} {d : D} (hx : resVarE P keep r = some x) (he : x.eval (kd ++ [.st bs]) = some d) : ∃ v, (resultOf a.tmps r).run P w = .ok v w ∧ RdD w S v d := by
  unfold resVarE at hx
  split at hx
  · rename_i t ty
    split at hx
    · rename_i i agg n hi hg hn
      cases hx
      obtain ⟨_, hi⟩ := slotAt_spec hi
      rw [Nat.sub_zero] at hi
      have hil : i < kd.length := by rw [hk.1]; exact (List.getElem?_eq_some_iff.1 hi).1
      have h1 : (kd ++ [D.st bs])[keep.length]? = some (.st bs) := by
        rw [List.getElem?_append_right (by rw [hk.1]; exact Nat.le_refl _), hk.1]
        simp
      have h2 : (kd ++ [D.st bs])[i]? = some kd[i] := by
        rw [List.getElem?_append_left hil]
        exact List.getElem?_eq_getElem hil
      simp only [E.eval, h1, h2, Option.bind_some] at he
      have hrp := hk.2 i t _ hi (List.getElem?_eq_getElem hil)
      obtain ⟨b, off, u, hv, hrun, hru, _⟩ := ld_run hg hn hrp (.inr hst) he
      refine ⟨u, ?_, hru⟩
      simp only [resultOf, hv, asAddr, Sem.run_bind, Sem.run_pure, Result.andThen_ok, hrun]
    · cases hx
  · cases hx

theorem resVarsE_rd {w : World} {S : Sets} {foot : Nat → Prop} {bs : List D} {a : Act} {keep : List Nat} {kd : List D} (hst : StOk w S foot bs) (hk : KeepRd w S a keep kd) : ∀ {rs : List ResultVar} {x : E} {d : D}, resVarsE P keep rs = some x → x.eval (kd ++ [.st bs]) = some d → ∃ vs ds, (rs.mapM (resultOf a.tmps)).run P w = .ok vs w ∧ d = .tup ds ∧ vs.length = ds.length ∧ vs.length = rs.length ∧ ∀ (i : Nat) (v : Value) (d : D), vs[i]? = some v → ds[i]? = some d → RdD w S v d
  | [], x, d, hx, he => by
    simp [resVarsE] at hx
    subst hx
    simp [E.eval] at he
    exact ⟨[], [], rfl, he.symm, rfl, rfl, by simp⟩
  | r :: rs, x, d, hx, he => by
    simp only [resVarsE] at hx
    split at hx
    · rename_i y z hy hz
      cases hx
      simp only [E.eval, Option.bind_eq_some_iff] at he
      obtain ⟨d1, he1, d2, he2, he⟩ := he
      obtain ⟨v, h1, h3⟩ := resVarE_rd hst hk hy he1
      obtain ⟨vs, ds, h4, rfl, h6, h6', h7⟩ := resVarsE_rd hst hk hz he2
      simp only [D.tcons] at he
      cases he
      refine ⟨v :: vs, d1 :: ds, by simp only [List.mapM_cons, Sem.run_bind, h1, Result.andThen_ok, h4, Sem.run_pure], rfl, by simp [h6], by simp [h6'], fun i v' d' hv hd => ?_⟩
      cases i with
      | zero => simp at hv hd; subst hv hd; exact h3
      | succ i => exact h7 i v' d' (by simpa using hv) (by simpa using hd)
    · cases hx

theorem resOfE_rd {w : World} {S : Sets} {foot : Nat → Prop} {bs : List D} {a : Act} {keep : List Nat} {kd : List D} (hst : StOk w S foot bs) (hk : KeepRd w S a keep kd) {fn : Func} {x : E} {d : D} (hx : resOfE P keep fn.results.toList = some x) (he : x.eval (kd ++ [.st bs]) = some d) : ∃ v, (results fn a.tmps).run P w = .ok v w ∧ RdD w S v d := by
  unfold resOfE at hx
  split at hx
  · rename_i r hr
    obtain ⟨v, h1, h3⟩ := resVarE_rd hst hk hx he
    refine ⟨v, ?_, h3⟩
    have := results_run (P := P) (w := w) fn a.tmps (vs := [v]) (by rw [hr]; simp only [List.mapM_cons, List.mapM_nil, Sem.run_bind, h1, Result.andThen_ok, Sem.run_pure])
    simpa using this
  · rename_i hne
    obtain ⟨vs, ds, h1, rfl, h3, h3', h4⟩ := resVarsE_rd hst hk hx he
    have := results_run (P := P) (w := w) fn a.tmps h1
    rw [dif_neg ?_] at this
    · exact ⟨_, this, .tup (by simpa using h3) fun i v d hv hd => h4 i v d (by simpa using hv) hd⟩
    · intro hl
      rw [hl] at h3'
      match hrs : fn.results.toList, h3' with
      | [r], _ => exact hne r hrs

/-- what a call owes -/
def EndR (w : World) (S : Sets) (foot : Nat → Prop) (Qd Qp : D → D → Prop) (e : Ending) (w' : World) : Prop :=
  ∃ (o : Out) (v : Value) (S' : Sets) (foot' : Nat → Prop) (bs' : List D), (match o with | .ret d => Qd d (.st bs') | .pan d => Qp d (.st bs')) ∧ o.ends w' S' v e ∧ Left w S foot foot w' S' foot' bs'

/-- the deferred function runs, and the results are read -/
theorem defer_end {w : World} {S S1 : Sets} {foot : Nat → Prop} {Qd Qp : D → D → Prop} {fn : Func} {a' : Act} {w' : World} {σ' : SState} {env' : List D} {ρ' : Rho} {f : FuncId} {vals : Array Value} {cds kd bs1 : List D} {m : Option D} {st' d' : D} {res : E} {keep : List Nat} {u : FrameMode}
    (hr : Rep w ⟨foot, S1, foot, [{ target := .fn (.func f) vals, args := #[] }]⟩ w' a' σ' env' ρ') (hst : StOk w' ρ'.S ρ'.foot bs1) (hob : ∃ cf x, σ'.obj HID = some (.store cf x)) (hS1 : S ≤ S1) (hS1n : ∀ b o, S1 b o → S b o ∨ w.heap.size ≤ b ∨ foot b)
    (hcl : callable P f = true) (hvl : vals.size = cds.length) (hrd : ∀ (i : Nat) (v : Value) (x : D), vals[i]? = some v → cds[i]? = some x → RdD w' ρ'.S v x) (hk : KeepRd w' ρ'.S a' keep kd) (hu : match m with | none => u = .returning | some d => ∃ v, RdD w' ρ'.S v d ∧ u = .panicking [{ v, recovered := false }]) (hspec : FSpecD P f (.st bs1) cds m st') (hres : resOfE P keep fn.results.toList = some res) (hev : res.eval (kd ++ [st']) = some d') (hq : Qd d' st')  :
    Leaves P fn a'.tmps (EndR w S foot Qd Qp) a'.defers u w' := by
  obtain ⟨cf, x, hob⟩ := hob
  have hfl : ∀ b, ρ'.foot b → b < w'.heap.size := foot_lt hr hob
  have hnd : a'.defers = [{ target := .fn (.func f) vals, args := #[] }] := hr.nod
  rw [hnd]
  have hur : u ≠ .run := by
    cases m with
    | none => have hu : u = .returning := hu; rw [hu]; simp
    | some d => obtain ⟨v, _, hu⟩ := hu; rw [hu]; simp
  refine leaves_cons hur (callFunc_run hcl) ((hspec w' ρ'.S ρ'.foot bs1 vals u rfl hst (hr.holdOk hob) hfl hr.cells hvl hrd hu).mono ?_)
  rintro e u' w'' ⟨v, S'', foot'', bs'', rfl, hset, rfl, hl⟩
  simp only
  rw [hset]
  have hK : Keeps ρ'.S w' w'' := fun b o hs => World.cell?_of_block (a := ⟨b, o, none⟩) (hl.old b (hr.cells b o hs) fun hf => hst.nos b o hf hs)
  have hk' : KeepRd w'' S'' a' keep kd := ⟨hk.1, fun i s d h1 h2 => (hk.2 i s d h1 h2).keep hK hl.le⟩
  obtain ⟨rv, hrun, hrv⟩ := resOfE_rd hl.st hk' hres hev
  refine ⟨rv, hrun, .ret d', rv, S'', foot'', bs'', hq, ⟨rfl, hrv⟩, hl.st, Sets.le_trans hS1 (Sets.le_trans hr.sub hl.le), hl.os.trans hr.os, hl.tape.trans hr.tape, hl.output.trans hr.output, Nat.le_trans hr.grown hl.size, fun b hb hnf => ?_, fun b hb => ?_, fun b o hs => ?_, hl.lt⟩
  · have hown : ¬ ρ'.foot b := fun hf => by
      rcases (hr.own HID _ b hob hf).1 with g | g | g
      · exact hnf g.2
      · exact absurd hb (Nat.not_lt.2 g)
      · exact hnf g
    exact (hl.old b (Nat.lt_of_lt_of_le hb hr.grown) hown).trans (hr.old b hb hnf)
  · obtain ⟨g1, g2⟩ := hl.ft b hb
    refine ⟨?_, g2⟩
    rcases g1 with g1 | g1
    · rcases (hr.own HID _ b hob g1).1 with g | g | g
      · exact .inl g.2
      · exact .inr g
      · exact .inl g
    · exact .inr (Nat.le_trans hr.grown g1)
  · have hgr := hr.grown
    rcases hl.new b o hs with g | g | g
    · rcases hr.new b o g with g | g | g
      · rcases hS1n b o g with g | g | g
        · exact .inl g
        · exact .inr (.inr g)
        · exact .inr (.inl g)
      · exact .inr (.inr g)
      · exact .inr (.inl g)
    · rcases (hr.own HID _ b hob g).1 with g | g | g
      · exact .inr (.inl g.2)
      · exact .inr (.inr g)
      · exact .inr (.inl g)
    · exact .inr (.inr (Nat.le_trans hgr g))

theorem Rep.setCf {w0 w : World} {X : Ent} {a : Act} {σ : SState} {env : List D} {ρ : Rho} (h : Rep w0 X w a σ env ρ) {cf cf' : StCfg} {x : E} (hs : σ.hs = some (.store cf x)) (hro : cf'.ro = cf.ro) : Rep w0 X w a { σ with hs := some (.store cf' x) } env ρ := by
  have hob : σ.obj HID = some (.store cf x) := by unfold SState.obj; rw [if_pos rfl]; exact hs
  have hobj : ∀ o y, SState.obj { σ with hs := some (.store cf' x) } o = some y → ∃ y', σ.obj o = some y' ∧ (∀ b, objBlk ρ o y b ↔ objBlk ρ o y' b) ∧ y.ro = y'.ro ∧ (ObjOk w ρ env o y' → ObjOk w ρ env o y) := by
    intro o y hy
    by_cases ho : o = HID
    · subst ho
      simp only [SState.obj, if_true, Option.some.injEq] at hy
      subst hy
      exact ⟨_, hob, fun _ => Iff.rfl, hro, fun h => h⟩
    · refine ⟨y, ?_, fun _ => Iff.rfl, rfl, fun h => h⟩
      simp only [SState.obj, if_neg ho] at hy ⊢
      exact hy
  refine ⟨h.size, h.tmps, fun o y hy => ?_, fun o o' y y' b h1 h2 hb1 hb2 => ?_, fun o y b hy hb => ?_, h.cells, h.os, h.tape, h.output, h.grown, h.old, h.sub, h.new, h.nod, h.hold⟩
  · obtain ⟨y', g1, _, _, g2⟩ := hobj o y hy
    exact g2 (h.objs o y' g1)
  · obtain ⟨z, g1, g2, _⟩ := hobj o y h1
    obtain ⟨z', g3, g4, _⟩ := hobj o' y' h2
    exact h.inj o o' z z' b g1 g3 ((g2 b).1 hb1) ((g4 b).1 hb2)
  · obtain ⟨z, g1, g2, g3, _⟩ := hobj o y hy
    rw [g3]
    exact h.own o z b g1 ((g2 b).1 hb)

theorem compileD_sound {w : World} {S : Sets} {foot : Nat → Prop} {fn : Func} {keep : List Nat} {Qd Qp : D → D → Prop} : ∀ (c : Code) {σ : SState} {t : T} {env : List D} {a : Act} {w1 : World} {ρ : Rho}, compileD P fn keep c env.length σ = some t → den P t env (EndsAs Qd Qp) → Rep w ⟨foot, S, foot, []⟩ w1 a σ env ρ → Lens fn.ntmps σ → c.wp P (bodyPostD P fn (EndR w S foot Qd Qp)) a w1
  | .seq x y, σ, t, env, a, w1, ρ, hc, hden, hr, hl => by
    simp only [compileD] at hc
    split at hc
    · rename_i f caps t0 hdo
      split at hc
      · cases hc
      rename_i hnr
      have hnr : noRange y = true := by simpa using hnr
      split at hc
      · rename_i cs cf h res hcs hhs hres
        split at hc
        · rename_i hcond
          obtain ⟨hcl, ht0⟩ := hcond
          obtain ⟨tB, hB, rfl⟩ := Option.map_eq_some_iff.1 hc
          obtain ⟨cds, hcds, hloc, hdB⟩ := hden
          -- the region's form
          obtain ⟨id, o0, o1, first, caps', as, ts, rfl, h00, h01, h02, h10, h11, h12, rfl, hf0, ha0⟩ : ∃ id o0 o1 first caps' as ts, x = .region id #[o0, o1] false ∧ o0.op = .makeFunc (.func f) first caps' ∧ o0.guard = none ∧ o0.dst = some t0 ∧ o1.op = .defer { callee := .value (.tmp t0), args := as, argTypes := ts } ∧ o1.guard = none ∧ o1.dst = none ∧ caps = caps'.toList ∧ first.size = 0 ∧ as.size = 0 := by
            unfold deferOps at hdo
            split at hdo
            · rename_i id ops
              split at hdo
              · rename_i o0 o1 hops
                split at hdo
                · rename_i f' first caps' t1 t2 as ts g1 g2 g3 g4 g5 g6
                  split at hdo
                  · rename_i hcc
                    obtain ⟨rfl, hf0, ha0⟩ := hcc
                    cases hdo
                    have hoa : ops = #[o0, o1] := by rw [← Array.toArray_toList (xs := ops), hops]
                    exact ⟨id, o0, o1, first, caps', as, ts, by rw [hoa], g1, g2, g3, g4, g5, g6, rfl, hf0, ha0⟩
                  · cases hdo
                · cases hdo
              · cases hdo
            · cases hdo
          obtain rfl : first = #[] := Array.eq_empty_of_size_eq_zero hf0
          obtain rfl : as = #[] := Array.eq_empty_of_size_eq_zero ha0
          -- what is captured
          obtain ⟨ds', hev', hdl, hrd⟩ := toEAll_rd (w := w1) (ρ := ρ) (env := env) (vs := (caps'.map a.eval).toList) hcs (by simp) (fun i v s hv' hs' => by
            simp only [Array.toList_map, List.getElem?_map, Option.map_eq_some_iff] at hv' hs'
            obtain ⟨x, hx', rfl⟩ := hv'
            obtain ⟨y, hy', rfl⟩ := hs'
            rw [hx'] at hy'
            cases hy'
            exact opd_rd hr x)
          rw [hcds] at hev'
          cases hev'
          have hvl : (caps'.map a.eval).size = cds.length := by simpa using hdl
          -- the region
          refine wp_seq (wp_region_list ?_)
          have hw0 : ∀ tm, Region.wanted o0 tm = true := fun tm => by simp [Region.wanted, h01]
          have hw1 : ∀ tm, Region.wanted o1 tm = true := fun tm => by simp [Region.wanted, h11]
          have hrun0 : (execOp a.eval o0).run P w1 = .ok (.value (.func (.func f) #[] (caps'.map a.eval))) w1 := by
            unfold execOp
            rw [h00]
            simp [Instr.makeFunc]
          have hta : t0 < a.tmps.size := by rw [hr.size]; exact ht0
          have hev : (a.put (some t0) (.func (.func f) #[] (caps'.map a.eval))).eval (.tmp t0) = .func (.func f) #[] (caps'.map a.eval) := by
            show (a.put (some t0) (.func (.func f) #[] (caps'.map a.eval))).tmps.getD t0 undef = _
            rw [Act.getD_put _ _ _ hta, if_pos rfl]
          have hrun1 : (execOp (a.put (some t0) (.func (.func f) #[] (caps'.map a.eval))).eval o1).run P w1 = .ok (.defer { target := .fn (.func f) (caps'.map a.eval), args := #[] }) w1 := by
            unfold execOp
            rw [h10]
            simp only [resolve, hev, Deferred.ofValue, Sem.run_bind, Sem.run_pure, Result.andThen_ok]
            simp
          show wpList P #[o0, o1] _ [o0, o1] a w1
          unfold wpList
          rw [if_pos (hw0 _)]
          refine .inl ?_
          unfold Oper.wp
          rw [hrun0]
          simp only [Oper.upon_value, h02]
          unfold wpList
          rw [if_pos (hw1 _)]
          refine .inl ?_
          unfold Oper.wp
          rw [hrun1]
          simp only [Oper.upon_defer, h12]
          unfold wpList
          -- the frame from now on
          have hnod : a.defers = [] := hr.nod
          have hro' : ({ cf with keep := keep } : StCfg).ro = cf.ro := rfl
          have hr1 := (hr.setCf (cf' := { cf with keep := keep }) hhs hro').put (dst := some t0) (v := .func (.func f) #[] (caps'.map a.eval)) (sv := .junk) (fun d e => by cases e; exact ht0) .junk
          have hB1 : Rep w ⟨foot, ρ.S, foot, [{ target := .fn (.func f) (caps'.map a.eval), args := #[] }]⟩ w1 (Act.put { (a.put (some t0) (.func (.func f) #[] (caps'.map a.eval))) with defers := { target := .fn (.func f) (caps'.map a.eval), args := #[] } :: (a.put (some t0) (.func (.func f) #[] (caps'.map a.eval))).defers } none undef) (({ σ with hs := some (.store { cf with keep := keep } h) } : SState).put (some t0) .junk) env ρ := by
            refine ⟨hr1.size, hr1.tmps, hr1.objs, hr1.inj, hr1.own, hr1.cells, hr1.os, hr1.tape, hr1.output, hr1.grown, hr1.old, Sets.le_refl _, fun b o hs => .inl hs, ?_, fun l rec hl' => hr1.hold l rec (by rw [← hr1.sub.hold]; exact hl')⟩
            show _ :: a.defers = _
            rw [hnod]
          have hlB : Lens fn.ntmps (({ σ with hs := some (.store { cf with keep := keep } h) } : SState).put (some t0) .junk) := ⟨by simpa [SState.put] using hl.1, by simpa [SState.put] using hl.2⟩
          have hcode := compile_sound (P := P) (N := fn.ntmps) y (B := fun w1 X1 => w1 = w ∧ X1 = ⟨foot, ρ.S, foot, [{ target := .fn (.func f) (caps'.map a.eval), args := #[] }]⟩) (rd := none) (nd := 0)
            (RetOk := fun w' a' d' => ∃ (σ' : SState) (env' : List D) (ρ' : Rho) (kd bs1 : List D), Rep w ⟨foot, ρ.S, foot, [{ target := .fn (.func f) (caps'.map a.eval), args := #[] }]⟩ w' a' σ' env' ρ' ∧ StOk w' ρ'.S ρ'.foot bs1 ∧ (∃ cf x, σ'.obj HID = some (.store cf x)) ∧ KeepRd w' ρ'.S a' keep kd ∧ d' = .tup [.tup kd, .st bs1])
            (rv := rvB keep) (fun wB XB hBB σ' x hx env' ρ' a' w' d' hr' he => by
              rw [hBB.1, hBB.2] at hr'
              unfold rvB at hx
              split at hx
              · rename_i ks cf1 h1 hks hhs1
                split at hx
                · rename_i hko
                  cases hx
                  obtain ⟨hh1, hob1, bs1, hb1, hst1⟩ := hsOf_eval hr' hhs1
                  simp only [E.eval, Option.bind_eq_some_iff] at he
                  obtain ⟨d1, he1, d2, he2, he⟩ := he
                  obtain ⟨kd, hkd, rfl⟩ := tupE_eval he1
                  obtain ⟨d3, he3, d4, he4, he2⟩ := he2
                  obtain ⟨bs2, hb2, _⟩ := hr'.objs _ _ hob1
                  rw [he3] at hb2
                  cases hb2
                  cases he4
                  simp only [D.tcons] at he2
                  cases he2
                  simp only [D.tcons] at he
                  cases he
                  have hst2 : StOk w' ρ'.S ρ'.foot bs2 := by
                    obtain ⟨bs3, hb3, hst3, _⟩ := hr'.objs _ _ hob1
                    rw [he3] at hb3
                    cases hb3
                    exact hst3
                  exact ⟨σ', env', ρ', kd, bs2, hr', hst2, ⟨_, _, hob1⟩, hko ▸ keepE_rd hr' hks hkd (List.prefix_refl _), rfl⟩
                · cases hx
              · cases hx) (fun l e => by cases e) (.inl hnr) 0 _ [] _ tB env hB _ _ w1 w _ _ ⟨rfl, rfl⟩ hdB hB1 hlB (fun id e he => by simp [exOf] at he)
          have hcode := wpIn_wide.1 hcode
          have hS1n : ∀ b o, ρ.S b o → S b o ∨ w.heap.size ≤ b ∨ foot b := fun b o hs => hr.new b o hs
          have hrdc : ∀ {w' : World} {ρ' : Rho}, ρ.S ≤ ρ'.S → ∀ (i : Nat) (v : Value) (x : D), (caps'.map a.eval)[i]? = some v → cds[i]? = some x → RdD w' ρ'.S v x := by
            intro w' ρ' hle i v x hv hx
            have hlx := List.all_eq_true.1 hloc x (List.mem_of_getElem? hx)
            have := hrd i v x (by simpa using hv) hx
            cases x <;> simp [D.isLoc] at hlx
            cases this with
            | loc hi => rw [← hle.loc _ hi]; exact .loc (Nat.lt_of_lt_of_le hi hle.n)
          have retq : ∀ {w' : World} {a' : Act} {d' : D}, DfrQ P f keep cds res (EndsAs Qd Qp) (.ret d') → (∃ (σ' : SState) (env' : List D) (ρ' : Rho) (kd bs1 : List D), Rep w ⟨foot, ρ.S, foot, [{ target := .fn (.func f) (caps'.map a.eval), args := #[] }]⟩ w' a' σ' env' ρ' ∧ StOk w' ρ'.S ρ'.foot bs1 ∧ (∃ cf x, σ'.obj HID = some (.store cf x)) ∧ KeepRd w' ρ'.S a' keep kd ∧ d' = .tup [.tup kd, .st bs1]) →
              Leaves P fn a'.tmps (EndR w S foot Qd Qp) a'.defers .returning w' := by
            rintro w' a' d' hq ⟨σ', env', ρ', kd, bs1, hr', hst', hob', hk', rfl⟩
            obtain ⟨st', d'', h1, h2, h3⟩ := hq
            exact defer_end hr' hst' hob' hr.sub hS1n hcl hvl (hrdc hr'.sub) hk' rfl h1 hres h2 h3
          refine wp_mono hcode fun e a' w' hp => ?_
          cases e with
          | normal =>
            obtain ⟨wB, XB, env', σ', ρ', t', hBB, _, hk, hd', hr', _⟩ := hp
            rw [hBB.1, hBB.2] at hr'
            obtain ⟨xr, hxr, rfl⟩ := Option.map_eq_some_iff.1 hk
            obtain ⟨d1, he, hq⟩ := hd'
            refine retq hq ?_
            unfold rvB at hxr
            split at hxr
            · rename_i ks cf1 h1 hks hhs1
              split at hxr
              · rename_i hko
                cases hxr
                obtain ⟨hh1, hob1, _⟩ := hsOf_eval hr' hhs1
                simp only [E.eval, Option.bind_eq_some_iff] at he
                obtain ⟨d1, he1, d2, he2, he⟩ := he
                obtain ⟨kd, hkd, rfl⟩ := tupE_eval he1
                obtain ⟨d3, he3, d4, he4, he2⟩ := he2
                obtain ⟨bs2, hb2, hst2, _⟩ := hr'.objs _ _ hob1
                rw [he3] at hb2
                cases hb2
                cases he4
                simp only [D.tcons] at he2
                cases he2
                simp only [D.tcons] at he
                cases he
                exact ⟨σ', env', ρ', kd, bs2, hr', hst2, ⟨_, _, hob1⟩, hko ▸ keepE_rd hr' hks hkd (List.prefix_refl _), rfl⟩
              · cases hxr
            · cases hxr
          | ret =>
            obtain ⟨d1, hq, h1⟩ := hp
            exact retq hq h1
          | exit id => obtain ⟨_, _, e, _, _, _, he, _⟩ := hp; simp [exOf] at he
          | goto l => exact hp.elim
          | panic c =>
            obtain ⟨wB, XB, σ', env', ρ', v, d, bs', hBB, rfl, hr', hrd', hst', hob', kd, hk', hq⟩ := hp
            rw [hBB.1, hBB.2] at hr'
            obtain ⟨hko, st', d'', h1, h2, h3⟩ := hq
            rw [hko] at hk'
            exact defer_end (m := some d) hr' hst' hob' hr.sub hS1n hcl hvl (hrdc hr'.sub) hk' ⟨v, hrd', rfl⟩ h1 hres h2 h3
          | outgrown => exact hp.elim
        · cases hc
      · cases hc
    · -- ahead of it
      split at hc
      · cases hc
      rename_i hnr
      have hnr : noRange x = true := by simpa using hnr
      refine wp_seq (wp_mono (wpIn_wide.1 (compile_sound (P := P) (N := fn.ntmps) x (B := fun w1 X1 => w1 = w ∧ X1 = ⟨foot, S, foot, []⟩) (rd := none) (nd := 0) (RetOk := fun w' a' d' => a'.defers = [] ∧ ∃ (v : Value) (d0 : D) (bs' : List D) (S' : Sets) (foot' : Nat → Prop), (results fn a'.tmps).run P w' = .ok v w' ∧ d' = .tup [d0, .st bs'] ∧ RdD w' S' v d0 ∧ Left w S foot foot w' S' foot' bs')
        (rv := retAll P fn.results.toList) (fun wB XB hBB σ x hx env ρ a' w' d' hr he => by rw [hBB.1, hBB.2] at hr; exact ret_end (fun _ h => h) hx hr he) (fun l e => by cases e) (.inl hnr) 0 _ [] _ t env hc _ a w1 w _ _ ⟨rfl, rfl⟩ hden hr hl (fun id e he => by simp [exOf] at he))) fun e a' w' hp => ?_)
      cases e with
      | normal =>
        obtain ⟨wB, XB, env', σ', ρ', t', hBB, hpre, hk, hd', hr', hl'⟩ := hp
        rw [hBB.1, hBB.2] at hr'
        exact compileD_sound y hk hd' hr' hl'
      | ret =>
        obtain ⟨d', hq, g1, v, d0, bs', S', foot', h1, rfl, h3, h4⟩ := hp
        show Leaves P fn a'.tmps _ a'.defers .returning w'
        rw [g1]
        exact ⟨v, h1, .ret d0, v, S', foot', bs', hq, ⟨rfl, h3⟩, h4⟩
      | exit id => obtain ⟨_, _, e, _, _, _, he, _⟩ := hp; simp [exOf] at he
      | goto l => exact hp.elim
      | panic c =>
        obtain ⟨wB, XB, σ', env', ρ', v, d, bs', hBB, rfl, hr', hrd', hst', hob', kd, _, hq⟩ := hp
        rw [hBB.1, hBB.2] at hr'
        have hnd : a'.defers = [] := hr'.nod
        show Leaves P fn a'.tmps _ a'.defers (.panicking _) w'
        rw [hnd]
        exact ⟨.pan d, v, ρ'.S, ρ'.foot, bs', hq, ⟨rfl, hrd'⟩, left_of_rep hr' hst' hob' fun _ h => h⟩
      | outgrown => exact hp.elim

/-- **The contract of a function that defers another one.** -/
theorem fspecDefer {cf : StCfg} {f : FuncId} {fn : Func} {keep : List Nat} {t : T} {ds : List D} {bs bs' : List D} {o : Out} (hf : P.funcs[f]? = some fn) (hc : compileDefer P cf fn keep = some t) (hfit : argsFit (paramOnes P fn) ds = true) (hden : den P t (ds ++ [.st bs]) (EndsIn o (.st bs'))) :
    FSpecWO P f (.st bs) ds o (.st bs') := by
  intro w S foot bs0 vs hb hst hhold hfl hS hvl hrd
  cases hb
  obtain ⟨hbl, _⟩ := argsFit_spec hfit
  have hpl : (paramOnes P fn).length = nParams fn := by simp [paramOnes, nParams]
  unfold compileDefer at hc
  split at hc
  · cases hc
  rename_i c hbody
  split at hc
  · cases hc
  rename_i hnt
  rw [not_or] at hnt
  have hstart := start_rep (may := foot) (cf := cf) hfit hst hhold (fun _ h => h) hfl hS hvl hrd fun _ h => .inr h
  have hlens : Lens fn.ntmps (startState cf fn.ntmps (nParams fn) (paramOnes P fn)) := ⟨by simp [startState, startTmps_length, hpl]; omega, by simp [startState]⟩
  refine (calls_of_wp_defers hf hbody (compileD_sound (w := w) (S := S) (foot := foot) c (env := ds ++ [.st bs]) (by rw [List.length_append, ← hbl, hpl]; exact hc) (den_mono (fun s hs => hs.as) hden) hstart hlens)).mono ?_
  rintro e w' ⟨o', v, S', foot', bs'', hq, hends, hl⟩
  have : o' = o ∧ bs'' = bs' := by cases o' <;> (obtain ⟨rfl, h2⟩ := hq; cases h2; exact ⟨rfl, rfl⟩)
  obtain ⟨rfl, rfl⟩ := this
  exact ⟨v, S', foot', _, hends, rfl, hl.st, fun b o hs => World.cell?_of_block (a := ⟨b, o, none⟩) (hl.old b (hS b o hs) fun hf => hst.nos b o hf hs), hl.le, hl.os, hl.tape, hl.output, hl.size, hl.old, hl.ft, hl.new, hl.lt⟩

end
end Go.Am
