/-
  The small language that Go functions are turned into, and what its texts mean.
-/
import Derived.Test.YtnenlnmfoocpdaaAmRun
import Derived.Defers
set_option linter.unusedSimpArgs false
set_option linter.unusedVariables false
namespace Go.Am

/-- what became of the world when a call is over -/
structure Left (w : World) (S : Sets) (foot may : Nat → Prop) (w' : World) (S' : Sets) (foot' : Nat → Prop) (bs' : List D) : Prop where
  st : StOk w' S' foot' bs'
  le : S ≤ S'
  os : w'.os = w.os
  tape : w'.tape = w.tape
  output : w'.output = w.output
  size : w.heap.size ≤ w'.heap.size
  old : ∀ b, b < w.heap.size → ¬ may b → w'.heap[b]? = w.heap[b]?
  ft : ∀ b, foot' b → (foot b ∨ w.heap.size ≤ b) ∧ b < w'.heap.size
  new : ∀ b o, S' b o → S b o ∨ may b ∨ w.heap.size ≤ b
  lt : ∀ b o, S' b o → b < w'.heap.size

/-- **The contract of a deferred function**: called while the caller returns (none), or panics with a value (some d): it ends as any call, the panic is over, and the store is 'st''. -/
def FSpecD (P : Program) (f : FuncId) (st : D) (cs : List D) (m : Option D) (st' : D) : Prop :=
  ∀ (w : World) (S : Sets) (foot : Nat → Prop) (bs : List D) (vs : Array Value) (u : FrameMode), st = .st bs → StOk w S foot bs → HoldOk w S foot → (∀ b, foot b → b < w.heap.size) → (∀ b o, S b o → b < w.heap.size) → vs.size = cs.length → (∀ (i : Nat) (v : Value) (x : D), vs[i]? = some v → cs[i]? = some x → RdD w S v x) →
    (match m with | none => u = .returning | some d => ∃ v, RdD w S v d ∧ u = .panicking [{ v, recovered := false }]) →
    CallsD P f vs u w fun e u' w' => ∃ (v : Value) (S' : Sets) (foot' : Nat → Prop) (bs' : List D), e = .returned v ∧ settle u' = .returning ∧ st' = .st bs' ∧ Left w S foot foot w' S' foot' bs'


inductive T where
  | bind (b : Bind) (t : T)
  | ite (c : E) (a b : T)
  | loop (l : Nat) (inits : List E) (body : T)
  | join (l n : Nat) (body rest : T)
  | jump (l : Nat) (vals : List E)
  | ret (x : E)
  | pan (x h : E) (sl : List Nat) (ks : List E)
  | nilq (x : E) (neg : Bool) (t : T)
  | dfr (f : FuncId) (keep : List Nat) (caps : List E) (res : E) (t : T)
  | pcall (f : FuncId) (h : E) (args : List E) (rs : List Bool) (sl : List Nat) (ks : List E) (t : T)
  | wpcall (f : FuncId) (h : E) (args : List E) (rs : List Bool) (sl : List Nat) (ks : List E) (t : T)
  | wpcallv (x h : E) (args : List E) (rs : List Bool) (sl : List Nat) (ks : List E) (t : T)
  /-- a loop over a function x, which gets n values at a time: 'body' is a round's text, which ends in a jump to l with the store -/
  | rfor (x h : E) (sl : List Nat) (caps : List E) (n l : Nat) (body rest : T)
  deriving Inhabited

inductive Sig where
  | jump (l : Nat) (ds : List D)
  | ret (d : D)
  | pan (d st : D) (sl : List Nat) (kd : List D)

/-- is a slice nil? (of an empty one it isn't known) -/
def D.isNil (x : D) : Option (List Bool) :=
  match x with
  | .lst [] => some [true, false]
  | .lst _ | .sl _ _ _ => some [false]
  | .snil => some [true]
  | _ => none

/-- a jump to l is caught -/
def catchL (l : Nat) (K : List D → Prop) (Q : Sig → Prop) : Sig → Prop
  | .jump l' ds => if l' = l then K ds else Q (.jump l' ds)
  | .ret d => Q (.ret d)
  | .pan d st sl kd => Q (.pan d st sl kd)

/-- at most n rounds -/
def rounds (l : Nat) (body : List D → (Sig → Prop) → Prop) (Q : Sig → Prop) : Nat → List D → Prop
  | 0, _ => False
  | n + 1, ds => body ds (catchL l (rounds l body Q n) Q)

def D.isLoc : D → Bool
  | .loc _ _ => true
  | _ => false

/-- what is owed where a function ends that has deferred another one -/
def DfrQ (P : Program) (f : FuncId) (keep : List Nat) (cds : List D) (res : E) (Q : Sig → Prop) : Sig → Prop
  | .ret (.tup [.tup kd, st]) => ∃ st' d', FSpecD P f st cds none st' ∧ res.eval (kd ++ [st']) = some d' ∧ Q (.ret (.tup [d', st']))
  | .pan d st sl kd => sl = keep ∧ ∃ st' d', FSpecD P f st cds (some d) st' ∧ res.eval (kd ++ [st']) = some d' ∧ Q (.ret (.tup [d', st']))
  | _ => False

theorem DfrQ_mono {P : Program} {f : FuncId} {keep : List Nat} {cds : List D} {res : E} {Q Q' : Sig → Prop} (hq : ∀ s, Q s → Q' s) {s : Sig} (h : DfrQ P f keep cds res Q s) : DfrQ P f keep cds res Q' s := by
  unfold DfrQ at h ⊢
  split at h
  · obtain ⟨st', d', h1, h2, h3⟩ := h; exact ⟨st', d', h1, h2, hq _ h3⟩
  · obtain ⟨h0, st', d', h1, h2, h3⟩ := h; exact ⟨h0, st', d', h1, h2, hq _ h3⟩
  · exact h

def den (P : Program) : T → List D → (Sig → Prop) → Prop
  | .bind (.ev x) t, env, Q => ∃ d, x.eval env = some d ∧ den P t (env ++ [d]) Q
  | .bind (.call act f h args rs) t, env, Q => (∀ p, p ∈ act → ∃ d, p.1.eval env = some d) ∧ ∃ d, (actHolds env act → ∃ st ds, h.eval env = some st ∧ evalAll env args = some ds ∧ FSpecR P f st ds d ∧ d.fits rs = true) ∧ den P t (env ++ [d]) Q
  | .bind (.wcall act f h args rs) t, env, Q => (∀ p, p ∈ act → ∃ d, p.1.eval env = some d) ∧ ∃ st d h', h.eval env = some st ∧ (actHolds env act → ∃ ds, evalAll env args = some ds ∧ FSpecW P f st ds d h' ∧ d.fits rs = true) ∧ (¬ actHolds env act → h' = st) ∧ den P t (env ++ [.tup [d, h']]) Q
  | .bind (.callv act x h args rs) t, env, Q => (∀ p, p ∈ act → ∃ d, p.1.eval env = some d) ∧ ∃ d, (actHolds env act → ∃ f us cs st ds, x.eval env = some (.fn f us cs) ∧ callable P f = true ∧ h.eval env = some st ∧ evalAll env args = some ds ∧ FSpecR P f st (us ++ ds ++ cs) d ∧ d.fits rs = true) ∧ den P t (env ++ [d]) Q
  | .bind (.wcallv act x h args rs) t, env, Q => (∀ p, p ∈ act → ∃ d, p.1.eval env = some d) ∧ ∃ st d h', h.eval env = some st ∧ (actHolds env act → ∃ xd ds, x.eval env = some xd ∧ evalAll env args = some ds ∧ CallV P xd st ds d h' ∧ d.fits rs = true) ∧ (¬ actHolds env act → h' = st) ∧ den P t (env ++ [.tup [d, h']]) Q
  | .ite c a b, env, Q => ∃ v, c.eval env = some (.v (.bool v)) ∧ (v = true → den P a env Q) ∧ (v = false → den P b env Q)
  | .loop l inits body, env, Q => ∃ ds, evalAll env inits = some ds ∧ ∃ n, rounds l (fun ds Q => ds.length = inits.length ∧ den P body (env ++ ds) Q) Q n ds
  | .join l n body rest, env, Q => den P body env (catchL l (fun ds => ds.length = n ∧ den P rest (env ++ ds) Q) Q)
  | .jump l vals, env, Q => ∃ ds, evalAll env vals = some ds ∧ Q (.jump l ds)
  | .ret x, env, Q => ∃ d, x.eval env = some d ∧ Q (.ret d)
  | .pan x h sl ks, env, Q => ∃ d st kd, x.eval env = some d ∧ h.eval env = some st ∧ evalAll env ks = some kd ∧ Q (.pan d st sl kd)
  | .nilq x neg t, env, Q => ∃ d bs, x.eval env = some d ∧ d.isNil = some bs ∧ ∀ b, b ∈ bs → den P t (env ++ [.v (.bool (b != neg))]) Q
  | .dfr f keep caps res t, env, Q => ∃ cds, evalAll env caps = some cds ∧ cds.all D.isLoc = true ∧ den P t env (DfrQ P f keep cds res Q)
  | .pcall f h args rs sl ks t, env, Q => ∃ st ds o, h.eval env = some st ∧ evalAll env args = some ds ∧ FSpecO P f st ds o ∧ match o with
    | .ret d => d.fits rs = true ∧ den P t (env ++ [d]) Q
    | .pan d => ∃ kd, evalAll env ks = some kd ∧ Q (.pan d st sl kd)
  | .wpcall f h args rs sl ks t, env, Q => ∃ st ds o h', h.eval env = some st ∧ evalAll env args = some ds ∧ FSpecWO P f st ds o h' ∧ match o with
    | .ret d => d.fits rs = true ∧ den P t (env ++ [.tup [d, h']]) Q
    | .pan d => ∃ kd, evalAll env ks = some kd ∧ Q (.pan d h' sl kd)
  | .wpcallv x h args rs sl ks t, env, Q => ∃ f us cs st ds o h', x.eval env = some (.fn f us cs) ∧ callable P f = true ∧ h.eval env = some st ∧ evalAll env args = some ds ∧ FSpecWO P f st (us ++ ds ++ cs) o h' ∧ match o with
    | .ret d => d.fits rs = true ∧ den P t (env ++ [.tup [d, h']]) Q
    | .pan d => ∃ kd, evalAll env ks = some kd ∧ Q (.pan d h' sl kd)
  | .rfor x h sl caps n l body rest, env, Q => ∃ f us cs st cds d st', x.eval env = some (.fn f us cs) ∧ callable P f = true ∧ h.eval env = some st ∧ evalAll env caps = some cds ∧ noyls cds = true ∧ st'.noyl = true ∧
      (∀ (m : Nat) (rec : Loop), (∀ st1 ds st2, st1.noyl = true → noyls ds = true → ds.length = n → den P body (env ++ [st1] ++ ds) (fun s => s = .jump l [st2]) → YSpec P (.yl m rec sl cds) st1 ds st2) → FSpecW P f st (us ++ [.yl m rec sl cds] ++ cs) d st') ∧ den P rest (env ++ [st']) Q

theorem rounds_mono {l : Nat} {body body' : List D → (Sig → Prop) → Prop} {Q Q' : Sig → Prop} (hb : ∀ ds (R R' : Sig → Prop), (∀ s, R s → R' s) → body ds R → body' ds R') (hQ : ∀ s, Q s → Q' s) : ∀ (n : Nat) (ds : List D), rounds l body Q n ds → rounds l body' Q' n ds
  | 0, _, h => h
  | n + 1, ds, h => hb ds _ _ (fun s hs => by
      cases s with
      | jump l' ds' =>
        simp only [catchL] at hs ⊢
        split
        · rename_i e; rw [if_pos e] at hs; exact rounds_mono hb hQ n ds' hs
        · rename_i e; rw [if_neg e] at hs; exact hQ _ hs
      | ret d => exact hQ _ hs
      | pan d st sl kd => exact hQ _ hs) h

/-- A weaker end. -/
theorem den_mono {P : Program} : ∀ {t : T} {env : List D} {Q Q' : Sig → Prop}, (∀ s, Q s → Q' s) → den P t env Q → den P t env Q'
  | .bind (.ev x) t, env, Q, Q', hq, ⟨d, h1, h2⟩ => ⟨d, h1, den_mono hq h2⟩
  | .bind (.call act f h args rs) t, env, Q, Q', hq, ⟨h0, d, h1, h2⟩ => ⟨h0, d, h1, den_mono hq h2⟩
  | .bind (.wcall act f h args rs) t, env, Q, Q', hq, ⟨h0, st, d, h', h1, h2, h3, h5⟩ => ⟨h0, st, d, h', h1, h2, h3, den_mono hq h5⟩
  | .bind (.callv act x h args rs) t, env, Q, Q', hq, ⟨h0, d, h1, h2⟩ => ⟨h0, d, h1, den_mono hq h2⟩
  | .bind (.wcallv act x h args rs) t, env, Q, Q', hq, ⟨h0, st, d, h', h1, h2, h3, h5⟩ => ⟨h0, st, d, h', h1, h2, h3, den_mono hq h5⟩
  | .ite c a b, env, Q, Q', hq, ⟨v, h1, h2, h3⟩ => ⟨v, h1, fun e => den_mono hq (h2 e), fun e => den_mono hq (h3 e)⟩
  | .loop l inits body, env, Q, Q', hq, ⟨ds, h1, n, h2⟩ => ⟨ds, h1, n, rounds_mono (fun ds R R' hR h => ⟨h.1, den_mono hR h.2⟩) hq n ds h2⟩
  | .join l n body rest, env, Q, Q', hq, h => den_mono (t := body) (fun s hs => by
      cases s with
      | jump l' ds' =>
        simp only [catchL] at hs ⊢
        split
        · rename_i e; rw [if_pos e] at hs; exact ⟨hs.1, den_mono hq hs.2⟩
        · rename_i e; rw [if_neg e] at hs; exact hq _ hs
      | ret d => exact hq _ hs
      | pan d st sl kd => exact hq _ hs) h
  | .jump l vals, env, Q, Q', hq, ⟨ds, h1, h2⟩ => ⟨ds, h1, hq _ h2⟩
  | .ret x, env, Q, Q', hq, ⟨d, h1, h2⟩ => ⟨d, h1, hq _ h2⟩
  | .pan x h sl ks, env, Q, Q', hq, ⟨d, st, kd, h1, h2, h3, h4⟩ => ⟨d, st, kd, h1, h2, h3, hq _ h4⟩
  | .nilq x neg t, env, Q, Q', hq, ⟨d, bs, h1, h2, h3⟩ => ⟨d, bs, h1, h2, fun b hb => den_mono hq (h3 b hb)⟩
  | .dfr f keep caps res t, env, Q, Q', hq, ⟨cds, h1, h2, h3⟩ => ⟨cds, h1, h2, den_mono (fun _ => DfrQ_mono hq) h3⟩
  | .pcall f h args rs sl ks t, env, Q, Q', hq, ⟨st, ds, .ret d, h1, h2, h3, h4, h5⟩ => ⟨st, ds, .ret d, h1, h2, h3, h4, den_mono hq h5⟩
  | .pcall f h args rs sl ks t, env, Q, Q', hq, ⟨st, ds, .pan d, h1, h2, h3, kd, h4, h5⟩ => ⟨st, ds, .pan d, h1, h2, h3, kd, h4, hq _ h5⟩
  | .wpcall f h args rs sl ks t, env, Q, Q', hq, ⟨st, ds, .ret d, h', h1, h2, h3, h4, h5⟩ => ⟨st, ds, .ret d, h', h1, h2, h3, h4, den_mono hq h5⟩
  | .wpcall f h args rs sl ks t, env, Q, Q', hq, ⟨st, ds, .pan d, h', h1, h2, h3, kd, h4, h5⟩ => ⟨st, ds, .pan d, h', h1, h2, h3, kd, h4, hq _ h5⟩
  | .wpcallv x h args rs sl ks t, env, Q, Q', hq, ⟨f, us, cs, st, ds, .ret d, h', g1, g2, h1, h2, h3, h4, h5⟩ => ⟨f, us, cs, st, ds, .ret d, h', g1, g2, h1, h2, h3, h4, den_mono hq h5⟩
  | .wpcallv x h args rs sl ks t, env, Q, Q', hq, ⟨f, us, cs, st, ds, .pan d, h', g1, g2, h1, h2, h3, kd, h4, h5⟩ => ⟨f, us, cs, st, ds, .pan d, h', g1, g2, h1, h2, h3, kd, h4, hq _ h5⟩
  | .rfor x h sl caps n l body rest, env, Q, Q', hq, ⟨f, us, cs, st, cds, d, st', h1, h2, h3, h4, h5, h6, h7, h8⟩ => ⟨f, us, cs, st, cds, d, st', h1, h2, h3, h4, h5, h6, h7, den_mono hq h8⟩

def wrapBinds (bs : List Bind) (t : T) : T := bs.foldr T.bind t

theorem evalAll_mono {env env' : List D} (h : env <+: env') : ∀ {l : List E} {ds : List D}, evalAll env l = some ds → evalAll env' l = some ds
  | [], ds, hd => hd
  | x :: r, ds, hd => by
    simp only [evalAll, Option.bind_eq_some_iff, Option.map_eq_some_iff] at hd ⊢
    obtain ⟨d, h1, ds', h2, h3⟩ := hd
    exact ⟨d, E.eval_mono h x h1, ds', evalAll_mono h h2, h3⟩

theorem prefix_append (env ds : List D) : env <+: env ++ ds := ⟨ds, rfl⟩

/-- What the binds bind. -/
theorem den_binds {P : Program} {t : T} {Q : Sig → Prop} : ∀ {bs : List Bind} {env : List D}, den P (wrapBinds bs t) env Q → ∃ ds, ds.length = bs.length ∧ den P t (env ++ ds) Q ∧ BindsOk P (env ++ ds) env.length bs
  | [], env, h => ⟨[], rfl, by simpa [wrapBinds] using h, fun i b hi => by simp at hi⟩
  | b :: bs, env, h => by
    -- the first bind, and the rest
    have go : ∀ {d : D}, den P (wrapBinds bs t) (env ++ [d]) Q → (∀ ds, BindOk P (env ++ [d] ++ ds) env.length (some b)) → ∃ ds, ds.length = (b :: bs).length ∧ den P t (env ++ ds) Q ∧ BindsOk P (env ++ ds) env.length (b :: bs) := by
      intro d hd hb
      obtain ⟨ds, hl, h1, h2⟩ := den_binds hd
      refine ⟨d :: ds, by simp [hl], by simpa using h1, fun i b' hi => ?_⟩
      cases i with
      | zero => simp at hi; subst hi; simpa using hb ds
      | succ i =>
        have := h2 i b' (by simpa using hi)
        simp only [List.length_append, List.length_cons, List.length_nil, List.append_assoc, List.cons_append, List.nil_append] at this
        rwa [show env.length + (i + 1) = env.length + (0 + 1) + i from by omega]
    have hat : ∀ (d : D) (ds : List D), (env ++ [d] ++ ds)[env.length]? = some d := by
      intro d ds
      simp
    cases b with
    | ev x =>
      obtain ⟨d, hx, hd⟩ := h
      exact go hd fun ds => ⟨d, E.eval_mono (by rw [List.append_assoc]; exact prefix_append _ _) _ hx, hat d ds⟩
    | call act f hx args rs =>
      obtain ⟨hdef, d, hx, hd⟩ := h
      refine go hd fun ds => ⟨d, hat d ds, fun ha => ?_⟩
      obtain ⟨st, as, h0, h1, h2⟩ := hx (actHolds_mono (by rw [List.append_assoc]; exact prefix_append _ _) hdef ha)
      exact ⟨st, as, E.eval_mono (by rw [List.append_assoc]; exact prefix_append _ _) _ h0, evalAll_mono (by rw [List.append_assoc]; exact prefix_append _ _) h1, h2⟩
    | callv act x hx args rs =>
      obtain ⟨hdef, d, hx, hd⟩ := h
      refine go hd fun ds => ⟨d, hat d ds, fun ha => ?_⟩
      have hp : env <+: env ++ [d] ++ ds := by rw [List.append_assoc]; exact prefix_append _ _
      obtain ⟨f, us, cs, st, as, g0, g1, g2, g3, g4⟩ := hx (actHolds_mono hp hdef ha)
      exact ⟨f, us, cs, st, as, E.eval_mono hp _ g0, g1, E.eval_mono hp _ g2, evalAll_mono hp g3, g4⟩
    | wcallv act x hx args rs =>
      obtain ⟨hdef, st, d, h', g0, g1, g2, hd⟩ := h
      refine go hd fun ds => ?_
      have hp : env <+: env ++ [.tup [d, h']] ++ ds := by rw [List.append_assoc]; exact prefix_append _ _
      refine ⟨st, d, h', E.eval_mono hp _ g0, hat _ ds, fun ha => ?_, fun hn => g2 fun ha => hn (actHolds_up hp ha)⟩
      obtain ⟨xd, as, k1, k2, k3⟩ := g1 (actHolds_mono hp hdef ha)
      exact ⟨xd, as, E.eval_mono hp _ k1, evalAll_mono hp k2, k3⟩
    | wcall act f hx args rs =>
      obtain ⟨hdef, st, d, h', g0, g1, g2, hd⟩ := h
      refine go hd fun ds => ?_
      have hp : env <+: env ++ [.tup [d, h']] ++ ds := by rw [List.append_assoc]; exact prefix_append _ _
      refine ⟨st, d, h', E.eval_mono hp _ g0, hat _ ds, fun ha => ?_, fun hn => g2 fun ha => hn (actHolds_up hp ha)⟩
      obtain ⟨as, k2, k3⟩ := g1 (actHolds_mono hp hdef ha)
      exact ⟨as, evalAll_mono hp k2, k3⟩

end Go.Am
