/-
  Steps for proofs about texts.
-/
import Derived.Test.YtnenlnmfoocpdaaAmFn
import Derived.Test.YtnenlnmfoocpdaaAmLocal
import Derived.Test.YtnenlnmfoocpdaaAmEval
set_option linter.unusedSimpArgs false
set_option linter.unusedVariables false
namespace Go.Am

section
variable {P : Program} {t a b : T} {bs : List Bind} {env : List D} {Q : Sig → Prop} {x g : E} {d : D}

theorem st_nil (k : den P t env Q) : den P (wrapBinds [] t) env Q := k

theorem st_ev {env2 : List D} (h : x.eval env = some d) (he : env ++ [d] = env2) (k : den P (wrapBinds bs t) env2 Q) : den P (wrapBinds (.ev x :: bs) t) env Q := by subst he; exact ⟨d, h, k⟩

theorem st_guard {env2 : List D} {w v : Bool} (hg : g.eval env = some (.v (.bool v))) (he : env ++ [D.undef] = env2) (k1 : v = w → den P (wrapBinds (.ev x :: bs) t) env Q) (k2 : v = !w → den P (wrapBinds bs t) env2 Q) : den P (wrapBinds (.ev (.guard g w x) :: bs) t) env Q := by
  subst he
  by_cases h : v = w
  · obtain ⟨d, h1, h2⟩ := k1 h
    exact ⟨d, by simp only [E.eval, hg, if_pos h]; exact h1, h2⟩
  · exact ⟨_, by simp only [E.eval, hg, if_neg h], k2 (by cases v <;> cases w <;> simp_all)⟩

theorem st_cond {v : Bool} {y z : E} (hg : g.eval env = some (.v (.bool v))) (k1 : v = true → den P (wrapBinds (.ev y :: bs) t) env Q) (k2 : v = false → den P (wrapBinds (.ev z :: bs) t) env Q) : den P (wrapBinds (.ev (.ite g y z) :: bs) t) env Q := by
  cases v with
  | true =>
    obtain ⟨d, h1, h2⟩ := k1 rfl
    exact ⟨d, by simp only [E.eval, hg]; exact h1, h2⟩
  | false =>
    obtain ⟨d, h1, h2⟩ := k2 rfl
    exact ⟨d, by simp only [E.eval, hg]; exact h1, h2⟩

theorem st_call {env2 : List D} {f : FuncId} {h : E} {args : List E} {rs : List Bool} {st : D} {ds : List D} (hs : h.eval env = some st) (ha : evalAll env args = some ds) (hf : FSpecR P f st ds d) (hr : d.fits rs = true) (he : env ++ [d] = env2) (k : den P (wrapBinds bs t) env2 Q) : den P (wrapBinds (.call [] f h args rs :: bs) t) env Q := by
  subst he
  exact ⟨fun _ h => (by cases h), d, fun _ => ⟨st, ds, hs, ha, hf, hr⟩, k⟩

/-- a call under one condition that holds -/
theorem st_callY {f : FuncId} {h : E} {args : List E} {rs : List Bool} {st : D} {ds : List D} {w : Bool} (hg : g.eval env = some (.v (.bool w))) (hs : h.eval env = some st) (ha : evalAll env args = some ds) (hf : FSpecR P f st ds d) (hr : d.fits rs = true) (k : den P (wrapBinds bs t) (env ++ [d]) Q) : den P (wrapBinds (.call [(g, w)] f h args rs :: bs) t) env Q :=
  ⟨fun p h => (by simp at h; subst h; exact ⟨_, hg⟩), d, fun _ => ⟨st, ds, hs, ha, hf, hr⟩, k⟩

/-- a call under one condition that does not hold -/
theorem st_callN {f : FuncId} {h : E} {args : List E} {rs : List Bool} {w v : Bool} (hg : g.eval env = some (.v (.bool v))) (hv : v = !w) (k : den P (wrapBinds bs t) (env ++ [D.undef]) Q) : den P (wrapBinds (.call [(g, w)] f h args rs :: bs) t) env Q := by
  refine ⟨fun p h => (by simp at h; subst h; exact ⟨_, hg⟩), D.undef, fun ha => ?_, k⟩
  have := ha (g, w) (by simp)
  simp only [hg, Option.some.injEq, D.v.injEq, Value.bool.injEq] at this
  subst hv
  cases w <;> simp at this

/-- a call under one condition -/
theorem st_callG {env2 : List D} {f : FuncId} {h : E} {args : List E} {rs : List Bool} {w v : Bool} (hg : g.eval env = some (.v (.bool v))) (he : env ++ [D.undef] = env2) (k1 : v = w → den P (wrapBinds (.call [] f h args rs :: bs) t) env Q) (k2 : v = !w → den P (wrapBinds bs t) env2 Q) : den P (wrapBinds (.call [(g, w)] f h args rs :: bs) t) env Q := by
  subst he
  by_cases h : v = w
  · obtain ⟨_, d, h1, h2⟩ := k1 h
    exact ⟨fun p h => (by simp at h; subst h; exact ⟨_, hg⟩), d, fun _ => h1 fun _ h => (by cases h), h2⟩
  · exact st_callN hg (by cases v <;> cases w <;> simp_all) (k2 (by cases v <;> cases w <;> simp_all))

theorem st_wcall {env2 : List D} {f : FuncId} {h : E} {args : List E} {rs : List Bool} {st h' : D} {ds : List D} (hs : h.eval env = some st) (ha : evalAll env args = some ds) (hf : FSpecW P f st ds d h') (hr : d.fits rs = true) (he : env ++ [.tup [d, h']] = env2) (k : den P (wrapBinds bs t) env2 Q) : den P (wrapBinds (.wcall [] f h args rs :: bs) t) env Q := by
  subst he
  exact ⟨fun _ h => (by cases h), st, d, h', hs, fun _ => ⟨ds, ha, hf, hr⟩, fun h => absurd (fun _ h => (by cases h)) h, k⟩

theorem st_ite {v : Bool} (hg : g.eval env = some (.v (.bool v))) (k1 : v = true → den P a env Q) (k2 : v = false → den P b env Q) : den P (.ite g a b) env Q := ⟨v, hg, k1, k2⟩

theorem st_ret (h : x.eval env = some d) (k : Q (.ret d)) : den P (.ret x) env Q := ⟨d, h, k⟩

theorem st_jump {l : Nat} {vals : List E} {ds : List D} (h : evalAll env vals = some ds) (k : Q (.jump l ds)) : den P (.jump l vals) env Q := ⟨ds, h, k⟩

theorem at_jump {l : Nat} {K : List D → Prop} {ds : List D} (k : K ds) : catchL l K Q (.jump l ds) := by simp only [catchL, if_pos]; exact k

theorem over_jump {l m : Nat} {K : List D → Prop} {ds : List D} (h : m ≠ l) (k : Q (.jump m ds)) : catchL l K Q (.jump m ds) := by simp only [catchL, if_neg h]; exact k

theorem st_join {l n : Nat} {body rest : T} (k : den P body env (catchL l (fun ds => ds.length = n ∧ den P rest (env ++ ds) Q) Q)) : den P (.join l n body rest) env Q := k

theorem rounds_succ {l : Nat} {body : List D → (Sig → Prop) → Prop} (hm : ∀ ds (R R' : Sig → Prop), (∀ s, R s → R' s) → body ds R → body ds R') : ∀ (n : Nat) (ds : List D), rounds l body Q n ds → rounds l body Q (n + 1) ds
  | 0, _, h => h.elim
  | n + 1, ds, h => hm ds _ _ (fun s hs => by
      cases s with
      | jump l' ds' =>
        simp only [catchL] at hs ⊢
        split
        · rename_i e; rw [if_pos e] at hs; exact rounds_succ hm n ds' hs
        · rename_i e; rw [if_neg e] at hs; exact hs
      | ret d => exact hs
      | pan d st sl kd => exact hs) h

theorem rounds_le {l : Nat} {body : List D → (Sig → Prop) → Prop} (hm : ∀ ds (R R' : Sig → Prop), (∀ s, R s → R' s) → body ds R → body ds R') {n m : Nat} (h : n ≤ m) {ds : List D} (hr : rounds l body Q n ds) : rounds l body Q m ds := by
  induction h with
  | refl => exact hr
  | step _ ih => exact rounds_succ hm _ _ ih

theorem rounds_inv {l : Nat} {body : List D → (Sig → Prop) → Prop} (hm : ∀ ds (R R' : Sig → Prop), (∀ s, R s → R' s) → body ds R → body ds R') (I : Nat → List D → Prop) (hb : ∀ k ds, I k ds → ∀ R : List D → Prop, (∀ k' ds', k' < k → I k' ds' → R ds') → body ds (catchL l R Q)) : ∀ (k : Nat) (ds : List D), I k ds → rounds l body Q (k + 1) ds := by
  intro k
  induction k using Nat.strongRecOn with
  | _ k ih =>
    intro ds hI
    cases k with
    | zero => exact hb 0 ds hI _ fun k' _ h => absurd h (Nat.not_lt_zero _)
    | succ k =>
      refine hb (k + 1) ds hI _ fun k' ds' hk' hI' => ?_
      exact rounds_le hm (by omega) (ih k' hk' ds' hI')

theorem st_loop {l : Nat} {inits : List E} {body : T} {ds : List D} (I : Nat → List D → Prop) (hi : evalAll env inits = some ds) (k : Nat) (h0 : I k ds) (hb : ∀ k ds, I k ds → ds.length = inits.length ∧ ∀ R : List D → Prop, (∀ k' ds', k' < k → I k' ds' → R ds') → den P body (env ++ ds) (catchL l R Q)) : den P (.loop l inits body) env Q :=
  ⟨ds, hi, k + 1, rounds_inv (fun _ _ _ hR h => ⟨h.1, den_mono hR h.2⟩) I (fun k ds h R hR => ⟨(hb k ds h).1, (hb k ds h).2 R hR⟩) k ds h0⟩

/-- the contract of a function of a table that only reads -/
theorem EntOk.specR {e : Entry} {ds : List D} {bs : List D} {d : D} (he : EntOk P e) (hk : e.kn = .plain) (hro : e.cf.ro = true) (hfit : argsFit e.ones ds = true) (hden : den P e.t (ds ++ [.st bs]) (fun s => s = .ret (.tup [d, .st bs]))) : FSpecR P e.f (.st bs) ds d := by
  obtain ⟨fn, hf, hones, hc⟩ := he
  rw [hk] at hc
  exact fspecO hro hf hc (by rw [hones]; exact hfit) hden

/-- ... that writes -/
theorem EntOk.specW {e : Entry} {ds : List D} {bs bs' : List D} {d : D} (he : EntOk P e) (hk : e.kn = .plain) (hfit : argsFit e.ones ds = true) (hden : den P e.t (ds ++ [.st bs]) (fun s => s = .ret (.tup [d, .st bs']))) : FSpecW P e.f (.st bs) ds d (.st bs') := by
  obtain ⟨fn, hf, hones, hc⟩ := he
  rw [hk] at hc
  exact fspecWO hf hc (by rw [hones]; exact hfit) hden

end
end Go.Am
