/-
  Several texts, one behind the other.
-/
import Derived.Test.YtnenlnmfoocpdaaAmPuretoAmDraw4
import Derived.Defers
import Derived.Lib.SliceRun
import Derived.WalkSpells
import Derived.Test.YtnenlnmfoocpdaaAmBasetoAmTok
import Derived.LoopN
set_option linter.unusedSimpArgs false
set_option linter.unusedVariables false
/-
  The small language that Go functions are turned into, and what its texts mean.
-/
namespace Go.Am

structure Left (w : World) (S : Sets) (foot may : Nat → Prop) (w' : World) (S' : Sets) (foot' : Nat → Prop) (bs' : List D) : Prop where
  st : StOk w' S' foot' bs'
  le : S ≤ S'
  os : w'.os = w.os
  tape : w'.tape = w.tape
  output : w'.output = w.output
  size : w.heap.size ≤ w'.heap.size
  old : ∀ b, b < w.heap.size → ¬ may b → w'.heap[b]? = w.heap[b]?
  ft : ∀ b, foot' b → (foot b ∨ w.heap.size ≤ b) ∧ b < w'.heap.size
  new : ∀ b o, S' b o → S b o ∨ may b ∨ w.heap.size ≤ b
  lt : ∀ b o, S' b o → b < w'.heap.size

def FSpecD (P : Program) (f : FuncId) (st : D) (cs : List D) (m : Option D) (st' : D) : Prop :=
  ∀ (w : World) (S : Sets) (foot : Nat → Prop) (bs : List D) (vs : Array Value) (u : FrameMode), st = .st bs → StOk w S foot bs → HoldOk w S foot → (∀ b, foot b → b < w.heap.size) → (∀ b o, S b o → b < w.heap.size) → vs.size = cs.length → (∀ (i : Nat) (v : Value) (x : D), vs[i]? = some v → cs[i]? = some x → RdD w S v x) →
    (match m with | none => u = .returning | some d => ∃ v, RdD w S v d ∧ u = .panicking [{ v, recovered := false }]) →
    CallsD P f vs u w fun e u' w' => ∃ (v : Value) (S' : Sets) (foot' : Nat → Prop) (bs' : List D), e = .returned v ∧ settle u' = .returning ∧ st' = .st bs' ∧ Left w S foot foot w' S' foot' bs'


inductive T where
  | bind (b : Bind) (t : T)
  | ite (c : E) (a b : T)
  | loop (l : Nat) (inits : List E) (body : T)
  | join (l n : Nat) (body rest : T)
  | jump (l : Nat) (vals : List E)
  | ret (x : E)
  | pan (x h : E) (sl : List Nat) (ks : List E)
  | nilq (x : E) (neg : Bool) (t : T)
  | dfr (f : FuncId) (keep : List Nat) (caps : List E) (res : E) (t : T)
  | pcall (f : FuncId) (h : E) (args : List E) (rs : List Bool) (sl : List Nat) (ks : List E) (t : T)
  | wpcall (f : FuncId) (h : E) (args : List E) (rs : List Bool) (sl : List Nat) (ks : List E) (t : T)
  | wpcallv (x h : E) (args : List E) (rs : List Bool) (sl : List Nat) (ks : List E) (t : T)
  | rfor (x h : E) (sl : List Nat) (caps : List E) (n l : Nat) (body rest : T)
  deriving Inhabited

inductive Sig where
  | jump (l : Nat) (ds : List D)
  | ret (d : D)
  | pan (d st : D) (sl : List Nat) (kd : List D)

def D.isNil (x : D) : Option (List Bool) :=
  match x with
  | .lst [] => some [true, false]
  | .lst _ | .sl _ _ _ => some [false]
  | .snil => some [true]
  | _ => none

def catchL (l : Nat) (K : List D → Prop) (Q : Sig → Prop) : Sig → Prop
  | .jump l' ds => if l' = l then K ds else Q (.jump l' ds)
  | .ret d => Q (.ret d)
  | .pan d st sl kd => Q (.pan d st sl kd)

def rounds (l : Nat) (body : List D → (Sig → Prop) → Prop) (Q : Sig → Prop) : Nat → List D → Prop
  | 0, _ => False
  | n + 1, ds => body ds (catchL l (rounds l body Q n) Q)

def D.isLoc : D → Bool
  | .loc _ _ => true
  | _ => false

def DfrQ (P : Program) (f : FuncId) (keep : List Nat) (cds : List D) (res : E) (Q : Sig → Prop) : Sig → Prop
  | .ret (.tup [.tup kd, st]) => ∃ st' d', FSpecD P f st cds none st' ∧ res.eval (kd ++ [st']) = some d' ∧ Q (.ret (.tup [d', st']))
  | .pan d st sl kd => sl = keep ∧ ∃ st' d', FSpecD P f st cds (some d) st' ∧ res.eval (kd ++ [st']) = some d' ∧ Q (.ret (.tup [d', st']))
  | _ => False

theorem DfrQ_mono {P : Program} {f : FuncId} {keep : List Nat} {cds : List D} {res : E} {Q Q' : Sig → Prop} (hq : ∀ s, Q s → Q' s) {s : Sig} (h : DfrQ P f keep cds res Q s) : DfrQ P f keep cds res Q' s := by
  unfold DfrQ at h ⊢
  split at h
  · obtain ⟨st', d', h1, h2, h3⟩ := h; exact ⟨st', d', h1, h2, hq _ h3⟩
  · obtain ⟨h0, st', d', h1, h2, h3⟩ := h; exact ⟨h0, st', d', h1, h2, hq _ h3⟩
  · exact h

def den (P : Program) : T → List D → (Sig → Prop) → Prop
  | .bind (.ev x) t, env, Q => ∃ d, x.eval env = some d ∧ den P t (env ++ [d]) Q
  | .bind (.call act f h args rs) t, env, Q => (∀ p, p ∈ act → ∃ d, p.1.eval env = some d) ∧ ∃ d, (actHolds env act → ∃ st ds, h.eval env = some st ∧ evalAll env args = some ds ∧ FSpecR P f st ds d ∧ d.fits rs = true) ∧ den P t (env ++ [d]) Q
  | .bind (.wcall act f h args rs) t, env, Q => (∀ p, p ∈ act → ∃ d, p.1.eval env = some d) ∧ ∃ st d h', h.eval env = some st ∧ (actHolds env act → ∃ ds, evalAll env args = some ds ∧ FSpecW P f st ds d h' ∧ d.fits rs = true) ∧ (¬ actHolds env act → h' = st) ∧ den P t (env ++ [.tup [d, h']]) Q
  | .bind (.callv act x h args rs) t, env, Q => (∀ p, p ∈ act → ∃ d, p.1.eval env = some d) ∧ ∃ d, (actHolds env act → ∃ f us cs st ds, x.eval env = some (.fn f us cs) ∧ callable P f = true ∧ h.eval env = some st ∧ evalAll env args = some ds ∧ FSpecR P f st (us ++ ds ++ cs) d ∧ d.fits rs = true) ∧ den P t (env ++ [d]) Q
  | .bind (.wcallv act x h args rs) t, env, Q => (∀ p, p ∈ act → ∃ d, p.1.eval env = some d) ∧ ∃ st d h', h.eval env = some st ∧ (actHolds env act → ∃ xd ds, x.eval env = some xd ∧ evalAll env args = some ds ∧ CallV P xd st ds d h' ∧ d.fits rs = true) ∧ (¬ actHolds env act → h' = st) ∧ den P t (env ++ [.tup [d, h']]) Q
  | .ite c a b, env, Q => ∃ v, c.eval env = some (.v (.bool v)) ∧ (v = true → den P a env Q) ∧ (v = false → den P b env Q)
  | .loop l inits body, env, Q => ∃ ds, evalAll env inits = some ds ∧ ∃ n, rounds l (fun ds Q => ds.length = inits.length ∧ den P body (env ++ ds) Q) Q n ds
  | .join l n body rest, env, Q => den P body env (catchL l (fun ds => ds.length = n ∧ den P rest (env ++ ds) Q) Q)
  | .jump l vals, env, Q => ∃ ds, evalAll env vals = some ds ∧ Q (.jump l ds)
  | .ret x, env, Q => ∃ d, x.eval env = some d ∧ Q (.ret d)
  | .pan x h sl ks, env, Q => ∃ d st kd, x.eval env = some d ∧ h.eval env = some st ∧ evalAll env ks = some kd ∧ Q (.pan d st sl kd)
  | .nilq x neg t, env, Q => ∃ d bs, x.eval env = some d ∧ d.isNil = some bs ∧ ∀ b, b ∈ bs → den P t (env ++ [.v (.bool (b != neg))]) Q
  | .dfr f keep caps res t, env, Q => ∃ cds, evalAll env caps = some cds ∧ cds.all D.isLoc = true ∧ den P t env (DfrQ P f keep cds res Q)
  | .pcall f h args rs sl ks t, env, Q => ∃ st ds o, h.eval env = some st ∧ evalAll env args = some ds ∧ FSpecO P f st ds o ∧ match o with
    | .ret d => d.fits rs = true ∧ den P t (env ++ [d]) Q
    | .pan d => ∃ kd, evalAll env ks = some kd ∧ Q (.pan d st sl kd)
  | .wpcall f h args rs sl ks t, env, Q => ∃ st ds o h', h.eval env = some st ∧ evalAll env args = some ds ∧ FSpecWO P f st ds o h' ∧ match o with
    | .ret d => d.fits rs = true ∧ den P t (env ++ [.tup [d, h']]) Q
    | .pan d => ∃ kd, evalAll env ks = some kd ∧ Q (.pan d h' sl kd)
  | .wpcallv x h args rs sl ks t, env, Q => ∃ f us cs st ds o h', x.eval env = some (.fn f us cs) ∧ callable P f = true ∧ h.eval env = some st ∧ evalAll env args = some ds ∧ FSpecWO P f st (us ++ ds ++ cs) o h' ∧ match o with
    | .ret d => d.fits rs = true ∧ den P t (env ++ [.tup [d, h']]) Q
    | .pan d => ∃ kd, evalAll env ks = some kd ∧ Q (.pan d h' sl kd)
  | .rfor x h sl caps n l body rest, env, Q => ∃ f us cs st cds d st', x.eval env = some (.fn f us cs) ∧ callable P f = true ∧ h.eval env = some st ∧ evalAll env caps = some cds ∧ noyls cds = true ∧ st'.noyl = true ∧
      (∀ (m : Nat) (rec : Loop), (∀ st1 ds st2, st1.noyl = true → noyls ds = true → ds.length = n → den P body (env ++ [st1] ++ ds) (fun s => s = .jump l [st2]) → YSpec P (.yl m rec sl cds) st1 ds st2) → FSpecW P f st (us ++ [.yl m rec sl cds] ++ cs) d st') ∧ den P rest (env ++ [st']) Q

theorem rounds_mono {l : Nat} {body body' : List D → (Sig → Prop) → Prop} {Q Q' : Sig → Prop} (hb : ∀ ds (R R' : Sig → Prop), (∀ s, R s → R' s) → body ds R → body' ds R') (hQ : ∀ s, Q s → Q' s) : ∀ (n : Nat) (ds : List D), rounds l body Q n ds → rounds l body' Q' n ds
  | 0, _, h => h
  | n + 1, ds, h => hb ds _ _ (fun s hs => by
      cases s with
      | jump l' ds' =>
        simp only [catchL] at hs ⊢
        split
        · rename_i e; rw [if_pos e] at hs; exact rounds_mono hb hQ n ds' hs
        · rename_i e; rw [if_neg e] at hs; exact hQ _ hs
      | ret d => exact hQ _ hs
      | pan d st sl kd => exact hQ _ hs) h

theorem den_mono {P : Program} : ∀ {t : T} {env : List D} {Q Q' : Sig → Prop}, (∀ s, Q s → Q' s) → den P t env Q → den P t env Q'
  | .bind (.ev x) t, env, Q, Q', hq, ⟨d, h1, h2⟩ => ⟨d, h1, den_mono hq h2⟩
  | .bind (.call act f h args rs) t, env, Q, Q', hq, ⟨h0, d, h1, h2⟩ => ⟨h0, d, h1, den_mono hq h2⟩
  | .bind (.wcall act f h args rs) t, env, Q, Q', hq, ⟨h0, st, d, h', h1, h2, h3, h5⟩ => ⟨h0, st, d, h', h1, h2, h3, den_mono hq h5⟩
  | .bind (.callv act x h args rs) t, env, Q, Q', hq, ⟨h0, d, h1, h2⟩ => ⟨h0, d, h1, den_mono hq h2⟩
  | .bind (.wcallv act x h args rs) t, env, Q, Q', hq, ⟨h0, st, d, h', h1, h2, h3, h5⟩ => ⟨h0, st, d, h', h1, h2, h3, den_mono hq h5⟩
  | .ite c a b, env, Q, Q', hq, ⟨v, h1, h2, h3⟩ => ⟨v, h1, fun e => den_mono hq (h2 e), fun e => den_mono hq (h3 e)⟩
  | .loop l inits body, env, Q, Q', hq, ⟨ds, h1, n, h2⟩ => ⟨ds, h1, n, rounds_mono (fun ds R R' hR h => ⟨h.1, den_mono hR h.2⟩) hq n ds h2⟩
  | .join l n body rest, env, Q, Q', hq, h => den_mono (t := body) (fun s hs => by
      cases s with
      | jump l' ds' =>
        simp only [catchL] at hs ⊢
        split
        · rename_i e; rw [if_pos e] at hs; exact ⟨hs.1, den_mono hq hs.2⟩
        · rename_i e; rw [if_neg e] at hs; exact hq _ hs
      | ret d => exact hq _ hs
      | pan d st sl kd => exact hq _ hs) h
  | .jump l vals, env, Q, Q', hq, ⟨ds, h1, h2⟩ => ⟨ds, h1, hq _ h2⟩
  | .ret x, env, Q, Q', hq, ⟨d, h1, h2⟩ => ⟨d, h1, hq _ h2⟩
  | .pan x h sl ks, env, Q, Q', hq, ⟨d, st, kd, h1, h2, h3, h4⟩ => ⟨d, st, kd, h1, h2, h3, hq _ h4⟩
  | .nilq x neg t, env, Q, Q', hq, ⟨d, bs, h1, h2, h3⟩ => ⟨d, bs, h1, h2, fun b hb => den_mono hq (h3 b hb)⟩
  | .dfr f keep caps res t, env, Q, Q', hq, ⟨cds, h1, h2, h3⟩ => ⟨cds, h1, h2, den_mono (fun _ => DfrQ_mono hq) h3⟩
  | .pcall f h args rs sl ks t, env, Q, Q', hq, ⟨st, ds, .ret d, h1, h2, h3, h4, h5⟩ => ⟨st, ds, .ret d, h1, h2, h3, h4, den_mono hq h5⟩
  | .pcall f h args rs sl ks t, env, Q, Q', hq, ⟨st, ds, .pan d, h1, h2, h3, kd, h4, h5⟩ => ⟨st, ds, .pan d, h1, h2, h3, kd, h4, hq _ h5⟩
  | .wpcall f h args rs sl ks t, env, Q, Q', hq, ⟨st, ds, .ret d, h', h1, h2, h3, h4, h5⟩ => ⟨st, ds, .ret d, h', h1, h2, h3, h4, den_mono hq h5⟩
  | .wpcall f h args rs sl ks t, env, Q, Q', hq, ⟨st, ds, .pan d, h', h1, h2, h3, kd, h4, h5⟩ => ⟨st, ds, .pan d, h', h1, h2, h3, kd, h4, hq _ h5⟩
  | .wpcallv x h args rs sl ks t, env, Q, Q', hq, ⟨f, us, cs, st, ds, .ret d, h', g1, g2, h1, h2, h3, h4, h5⟩ => ⟨f, us, cs, st, ds, .ret d, h', g1, g2, h1, h2, h3, h4, den_mono hq h5⟩
  | .wpcallv x h args rs sl ks t, env, Q, Q', hq, ⟨f, us, cs, st, ds, .pan d, h', g1, g2, h1, h2, h3, kd, h4, h5⟩ => ⟨f, us, cs, st, ds, .pan d, h', g1, g2, h1, h2, h3, kd, h4, hq _ h5⟩
  | .rfor x h sl caps n l body rest, env, Q, Q', hq, ⟨f, us, cs, st, cds, d, st', h1, h2, h3, h4, h5, h6, h7, h8⟩ => ⟨f, us, cs, st, cds, d, st', h1, h2, h3, h4, h5, h6, h7, den_mono hq h8⟩

def wrapBinds (bs : List Bind) (t : T) : T := bs.foldr T.bind t

theorem evalAll_mono {env env' : List D} (h : env <+: env') : ∀ {l : List E} {ds : List D}, evalAll env l = some ds → evalAll env' l = some ds
  | [], ds, hd => hd
  | x :: r, ds, hd => by
    simp only [evalAll, Option.bind_eq_some_iff, Option.map_eq_some_iff] at hd ⊢
    obtain ⟨d, h1, ds', h2, h3⟩ := hd
    exact ⟨d, E.eval_mono h x h1, ds', evalAll_mono h h2, h3⟩

theorem prefix_append (env ds : List D) : env <+: env ++ ds := ⟨ds, rfl⟩

theorem den_binds {P : Program} {t : T} {Q : Sig → Prop} : ∀ {bs : List Bind} {env : List D}, den P (wrapBinds bs t) env Q → ∃ ds, ds.length = bs.length ∧ den P t (env ++ ds) Q ∧ BindsOk P (env ++ ds) env.length bs
  | [], env, h => ⟨[], rfl, by simpa [wrapBinds] using h, fun i b hi => by simp at hi⟩
  | b :: bs, env, h => by
    have go : ∀ {d : D}, den P (wrapBinds bs t) (env ++ [d]) Q → (∀ ds, BindOk P (env ++ [d] ++ ds) env.length (some b)) → ∃ ds, ds.length = (b :: bs).length ∧ den P t (env ++ ds) Q ∧ BindsOk P (env ++ ds) env.length (b :: bs) := by
      intro d hd hb
      obtain ⟨ds, hl, h1, h2⟩ := den_binds hd
      refine ⟨d :: ds, by simp [hl], by simpa using h1, fun i b' hi => ?_⟩
      cases i with
      | zero => simp at hi; subst hi; simpa using hb ds
      | succ i =>
        have := h2 i b' (by simpa using hi)
        simp only [List.length_append, List.length_cons, List.length_nil, List.append_assoc, List.cons_append, List.nil_append] at this
        rwa [show env.length + (i + 1) = env.length + (0 + 1) + i from by omega]
    have hat : ∀ (d : D) (ds : List D), (env ++ [d] ++ ds)[env.length]? = some d := by
      intro d ds
      simp
    cases b with
    | ev x =>
      obtain ⟨d, hx, hd⟩ := h
      exact go hd fun ds => ⟨d, E.eval_mono (by rw [List.append_assoc]; exact prefix_append _ _) _ hx, hat d ds⟩
    | call act f hx args rs =>
      obtain ⟨hdef, d, hx, hd⟩ := h
      refine go hd fun ds => ⟨d, hat d ds, fun ha => ?_⟩
      obtain ⟨st, as, h0, h1, h2⟩ := hx (actHolds_mono (by rw [List.append_assoc]; exact prefix_append _ _) hdef ha)
      exact ⟨st, as, E.eval_mono (by rw [List.append_assoc]; exact prefix_append _ _) _ h0, evalAll_mono (by rw [List.append_assoc]; exact prefix_append _ _) h1, h2⟩
    | callv act x hx args rs =>
      obtain ⟨hdef, d, hx, hd⟩ := h
      refine go hd fun ds => ⟨d, hat d ds, fun ha => ?_⟩
      have hp : env <+: env ++ [d] ++ ds := by rw [List.append_assoc]; exact prefix_append _ _
      obtain ⟨f, us, cs, st, as, g0, g1, g2, g3, g4⟩ := hx (actHolds_mono hp hdef ha)
      exact ⟨f, us, cs, st, as, E.eval_mono hp _ g0, g1, E.eval_mono hp _ g2, evalAll_mono hp g3, g4⟩
    | wcallv act x hx args rs =>
      obtain ⟨hdef, st, d, h', g0, g1, g2, hd⟩ := h
      refine go hd fun ds => ?_
      have hp : env <+: env ++ [.tup [d, h']] ++ ds := by rw [List.append_assoc]; exact prefix_append _ _
      refine ⟨st, d, h', E.eval_mono hp _ g0, hat _ ds, fun ha => ?_, fun hn => g2 fun ha => hn (actHolds_up hp ha)⟩
      obtain ⟨xd, as, k1, k2, k3⟩ := g1 (actHolds_mono hp hdef ha)
      exact ⟨xd, as, E.eval_mono hp _ k1, evalAll_mono hp k2, k3⟩
    | wcall act f hx args rs =>
      obtain ⟨hdef, st, d, h', g0, g1, g2, hd⟩ := h
      refine go hd fun ds => ?_
      have hp : env <+: env ++ [.tup [d, h']] ++ ds := by rw [List.append_assoc]; exact prefix_append _ _
      refine ⟨st, d, h', E.eval_mono hp _ g0, hat _ ds, fun ha => ?_, fun hn => g2 fun ha => hn (actHolds_up hp ha)⟩
      obtain ⟨as, k2, k3⟩ := g1 (actHolds_mono hp hdef ha)
      exact ⟨as, evalAll_mono hp k2, k3⟩

end Go.Am

/-
  Operations after which the text of the small language branches: a panic, a call that may panic, the question whether a slice is nil.
-/
namespace Go.Am

inductive Sop where
  | pan (x : E)
  | nilq (x : E) (neg : Bool)
  | call (f : FuncId) (args : List E) (rs : List Bool)
  | wcall (f : FuncId) (args : List E) (rs : List Bool)
  | wcallv (x : E) (args : List E) (rs : List Bool)
  deriving Inhabited

def isNilS : Operand → Bool
  | .const (.slice none 0 0) => true
  | _ => false

def sopOf (P : Program) (o : Oper) (σ : SState) : Option Sop :=
  match o.guard with
  | some _ => none
  | none => match o.op with
    | .panic x => (match (σ.opd x).toE, σ.hs with
      | some y, some (.store _ _) => some (.pan (.m4 .isifc y .nil .nil .nil))
      | _, _ => none)
    | .binOp .eql t x y _ => (match P.underlying t with
      | some (.slice _) => if isNilS y then (σ.opd x).toE.map (.nilq · false) else none
      | _ => none)
    | .binOp .neq t x y _ => (match P.underlying t with
      | some (.slice _) => if isNilS y then (σ.opd x).toE.map (.nilq · true) else none
      | _ => none)
    | .call c => (match c.callee with
      | .value f => match σ.opd f, σ.hs with
        | .func (.func f) [], some (.store cf _) => if cf.pan.contains f then (match P.funcs[f]?, toEAll (c.args.toList.map σ.opd) with
            | some fn, some xs => (match scalars P fn.resultTypes.toList with
              | some rs => if callable P f = false then none else if cf.wr.contains f then (if cf.ro then none else some (.wcall f xs rs)) else some (.call f xs rs)
              | none => none)
            | _, _ => none) else none
        | .e x _, some (.store cf _) => if cf.pan.contains (1000000 + o.dst.getD 999999) then (match rsOfType P o.type, toEAll (c.args.toList.map σ.opd) with
            | some rs, some xs => if cf.ro then none else some (.wcallv x xs rs)
            | _, _ => none) else none
        | _, _ => none
      | _ => none)
    | _ => none

abbrev SKont := SState → Nat → Option T

def hsOf (σ : SState) : E := match σ.hs with | some (.store _ h) => h | _ => .const (.st [])

def setH (σ : SState) (x : E) : SState := match σ.hs with | some (.store cf _) => σ.setObj HID (some (.store cf x)) | _ => σ

def keepOf (σ : SState) : List Nat := match σ.hs with | some (.store cf _) => cf.keep | _ => []

def keepE (σ : SState) : Option (List E) := toEAll ((keepOf σ).map σ.tmp)

def KeepRd (w : World) (S : Sets) (a : Act) (slots : List Nat) (kd : List D) : Prop :=
  kd.length = slots.length ∧ ∀ (i s : Nat) (d : D), slots[i]? = some s → kd[i]? = some d → RdD w S (a.tmps.getD s undef) d

def sopT (s : Sop) (o : Oper) (σ : SState) (u : Nat) (rest : SState → Nat → Option T) : Option T :=
  match s with
  | .pan x => (keepE σ).map (.pan x (hsOf σ) (keepOf σ))
  | .nilq x neg => (rest (σ.put o.dst (.e (.sym u) true)) (u + 1)).map (.nilq x neg)
  | .call f xs rs => (keepE σ).bind fun ks => (rest (σ.put o.dst (resSV (.sym u) rs)) (u + 1)).map (.pcall f (hsOf σ) xs rs (keepOf σ) ks)
  | .wcall f xs rs => (keepE σ).bind fun ks => (rest ((setH σ (.tget 1 (.sym u))).put o.dst (resSV (.tget 0 (.sym u)) rs)) (u + 1)).map (.wpcall f (hsOf σ) xs rs (keepOf σ) ks)
  | .wcallv x xs rs => (keepE σ).bind fun ks => (rest ((setH σ (.tget 1 (.sym u))).put o.dst (resSV (.tget 0 (.sym u)) rs)) (u + 1)).map (.wpcallv x (hsOf σ) xs rs (keepOf σ) ks)

def segs (P : Program) (ops : Array Oper) : List Oper → SState → Nat → SKont → Option T
  | [], σ, u, k => k σ u
  | o :: r, σ, u, k => match sopOf P o σ with
    | some s => if dstOk σ o then sopT s o σ u fun σ u => segs P ops r σ u k else none
    | none => match rstep P ops o σ u with
      | some (σ', none) => segs P ops r σ' u k
      | some (σ', some b) => (segs P ops r σ' (u + 1) k).map (.bind b)
      | none => none

def segsC (P : Program) (ops : Array Oper) : List Oper → SState → Nat → Option (Option (Nat × SState))
  | [], σ, u => some (some (u, σ))
  | o :: r, σ, u => match sopOf P o σ with
    | some (.pan _) => some none
    | some (.nilq _ _) => segsC P ops r (σ.put o.dst (.e (.sym u) true)) (u + 1)
    | some (.call _ _ rs) => segsC P ops r (σ.put o.dst (resSV (.sym u) rs)) (u + 1)
    | some (.wcallv _ _ rs) => segsC P ops r ((setH σ (.tget 1 (.sym u))).put o.dst (resSV (.tget 0 (.sym u)) rs)) (u + 1)
    | some (.wcall _ _ rs) => segsC P ops r ((setH σ (.tget 1 (.sym u))).put o.dst (resSV (.tget 0 (.sym u)) rs)) (u + 1)
    | none => match rstep P ops o σ u with
      | some (σ', none) => segsC P ops r σ' u
      | some (σ', some _) => segsC P ops r σ' (u + 1)
      | none => none

section
variable {P : Program} {w0 : World} {X : Ent}

theorem run_eqNil {t e : TypeId} {v : Value} {w : World} (ht : P.underlying t = some (.slice e)) (hv : ∃ ad n c, v = .slice ad n c) : ∃ b, (binOp .eql t v (.slice none 0 0)).run P w = .ok (.bool b) w ∧ (binOp .neq t v (.slice none 0 0)).run P w = .ok (.bool (!b)) w ∧ (b = true ↔ ∃ n c, v = .slice none n c) := by
  obtain ⟨ad, n, c, rfl⟩ := hv
  exact ⟨ad.isNone, Lib.run_eql_slice_nil w t e ad n c 0 0 ht, run_neq_slice_nil_any w t e ad n c 0 0 ht, by cases ad <;> simp⟩

theorem isNil_rd {w : World} {S : Sets} {v : Value} {d : D} {bs : List Bool} (h : RdD w S v d) (hb : d.isNil = some bs) : (∃ ad n c, v = .slice ad n c) ∧ ∀ b : Bool, (b = true ↔ ∃ n c, v = .slice none n c) → b ∈ bs := by
  unfold D.isNil at hb
  split at hb
  · cases hb
    obtain ⟨ad, n, c, hv, _⟩ := h.lst_form
    exact ⟨⟨ad, n, c, hv⟩, fun b _ => by cases b <;> simp⟩
  · cases hb
    rename_i hne
    cases h with
    | nil => exact absurd rfl hne
    | emp _ => exact absurd rfl hne
    | lst => exact ⟨⟨_, _, _, rfl⟩, fun b hb => by cases b <;> simp at hb ⊢⟩
  · cases hb
    cases h
    exact ⟨⟨_, _, _, rfl⟩, fun b hb => by cases b <;> simp at hb ⊢⟩
  · cases hb
    cases h
    exact ⟨⟨_, _, _, rfl⟩, fun b hb => by cases b <;> simp at hb ⊢⟩
  · cases hb

theorem hsOf_eval {w : World} {a : Act} {σ : SState} {env : List D} {ρ : Rho} (h : Rep w0 X w a σ env ρ) {cf : StCfg} {x : E} (hx : σ.hs = some (.store cf x)) : hsOf σ = x ∧ σ.obj HID = some (.store cf x) ∧ ∃ bs, x.eval env = some (.st bs) ∧ StOk w ρ.S ρ.foot bs := by
  have hob : σ.obj HID = some (.store cf x) := by unfold SState.obj; rw [if_pos rfl]; exact hx
  obtain ⟨bs, h1, h2, _⟩ := h.objs _ _ hob
  exact ⟨by simp [hsOf, hx], hob, bs, h1, h2⟩

def PanQ (w0 : World) (X : Ent) (Q : Sig → Prop) (Q' : Exit → Act → World → Prop) : Prop :=
  ∀ (w : World) (a : Act) (σ : SState) (env : List D) (ρ : Rho) (v : Value) (d : D) (bs : List D), Rep w0 X w a σ env ρ → RdD w ρ.S v d → StOk w ρ.S ρ.foot bs → (∃ cf x, σ.obj HID = some (.store cf x)) → (∃ kd, KeepRd w ρ.S a (keepOf σ) kd ∧ Q (.pan d (.st bs) (keepOf σ) kd)) → Q' (.panic [{ v, recovered := false }]) a w

theorem keepE_rd {w : World} {a : Act} {σ : SState} {env : List D} {ρ : Rho} (h : Rep w0 X w a σ env ρ) {ks : List E} (hk : keepE σ = some ks) {env0 : List D} {kd : List D} (he : evalAll env0 ks = some kd) (hp : env0 <+: env) : KeepRd w ρ.S a (keepOf σ) kd := by
  obtain ⟨ds, hev, hl, hrd⟩ := toEAll_rd (w := w) (ρ := ρ) (env := env) (vs := (keepOf σ).map fun s => a.tmps.getD s undef) hk (by simp) (fun i v s hv hs => by
    simp only [List.getElem?_map, Option.map_eq_some_iff] at hv hs
    obtain ⟨x, hx, rfl⟩ := hv
    obtain ⟨y, hy, rfl⟩ := hs
    rw [hx] at hy
    cases hy
    exact h.tmps x)
  have := evalAll_mono hp he
  rw [hev] at this
  cases this
  exact ⟨by simpa using hl.symm, fun i s d hs hd => hrd i _ d (by simp [hs]) hd⟩

theorem callable_run {f : FuncId} {o : Oper} {a : Act} {w : World} {c : Operand} {args : Array Operand} {ts : Array TypeId} (hcl : callable P f = true) (ho : o.op = .call { callee := .value c, args := args, argTypes := ts }) (hc : a.eval c = .func (.func f) #[] #[]) :
    (execOp a.eval o).run P w = .ok (.enter f (args.map a.eval)) w := by
  unfold callable at hcl
  split at hcl
  · rename_i fn hf
    simp only [Bool.and_eq_true, Bool.not_eq_true', Option.isSome_iff_ne_none] at hcl
    have hbn : fn.body.isNone = false := by
      cases hb : fn.body with
      | none => exact absurd hb hcl.2
      | some _ => rfl
    unfold execOp
    simp only [ho, resolve, hc, Deferred.ofValue, invoke, Sem.run_bind, Sem.run_pure, Result.andThen_ok, callFunc, run_program, hf, hcl.1, hbn, Bool.false_eq_true, if_false]
    simp
  · cases hcl

theorem sop_sound {rd : Option Nat} {nd : Nat} {ops : Array Oper} {o : Oper} {s : Sop} {σ : SState} {rest : SState → Nat → Option T} {t : T} {env : List D} {Q : Sig → Prop} {Q' : Exit → Act → World → Prop} {K : Act → World → Prop} {a : Act} {w : World} {ρ : Rho}
    (hs : sopOf P o σ = some s) (hnd : noDefer o = true) (hd : ∀ d, o.dst = some d → d < σ.tmps.length) (ht : sopT s o σ env.length rest = some t) (hden : den P t env Q) (hr : Rep w0 X w a σ env ρ) (hp : PanQ w0 X Q Q')
    (hK : ∀ (σ' : SState) (env' : List D) (t' : T) (a' : Act) (w' : World) (ρ' : Rho), env <+: env' → rest σ' env'.length = some t' → den P t' env' Q → Rep w0 X w' a' σ' env' ρ' → σ'.tmps.length = σ.tmps.length → σ'.mem.length = σ.mem.length → K a' w') :
    Region.wanted o (yielded ops a.tmps) = true ∧ o.wpIn (FW rd) nd P a w K Q' := by
  unfold sopOf at hs
  split at hs
  · cases hs
  rename_i hg
  refine ⟨by simp [Region.wanted, hg], ?_⟩
  have hv := fun x => opd_rd (a := a) hr x
  have hplen : ∀ sv, (σ.put o.dst sv).tmps.length = σ.tmps.length ∧ (σ.put o.dst sv).mem.length = σ.mem.length := fun sv => by cases o.dst <;> simp [SState.put]
  have nil : ∀ {op : BinOp} {ty yt : TypeId} {x y : Operand} {x' : E} {neg : Bool}, o.op = .binOp op ty x y yt → (op = .eql ∧ neg = false ∨ op = .neq ∧ neg = true) → (∃ e, P.underlying ty = some (.slice e)) → isNilS y = true → (σ.opd x).toE = some x' → s = .nilq x' neg → o.wpIn (FW rd) nd P a w K Q' := by
    intro op ty yt x y x' neg ho hop ⟨e, hu⟩ hy hx hs
    subst hs
    simp only [sopT] at ht
    obtain ⟨t', ht', rfl⟩ := Option.map_eq_some_iff.1 ht
    obtain ⟨d, bs, he, hb, hall⟩ := hden
    obtain ⟨d', he', hrd⟩ := SV.toE_rd hx (hv x)
    rw [he] at he'
    cases he'
    obtain ⟨hform, hmem⟩ := isNil_rd hrd hb
    obtain ⟨b, h1, h2, h3⟩ := run_eqNil (P := P) (w := w) hu hform
    have hye : a.eval y = .slice none 0 0 := by
      unfold isNilS at hy
      split at hy
      · rfl
      · cases hy
    have hd' := hall b (hmem b h3)
    have hguard : (eqGuard op ty x y (a.eval x) (.slice none 0 0)).run P w = .ok () w := by
      obtain ⟨ad, n, c, hvx⟩ := hform
      rw [hvx]
      rcases hop with ⟨rfl, _⟩ | ⟨rfl, _⟩ <;> simp [eqGuard]
    refine wpIn_of_upon (K := K) hnd ?_ fun _ _ h => h
    have hrun : (execOp a.eval o).run P w = .ok (.value (.bool (b != neg))) w := by
      unfold execOp
      rcases hop with ⟨rfl, rfl⟩ | ⟨rfl, rfl⟩
      · simp only [ho, hye, Sem.run_bind, hguard, Result.andThen_ok, h1, Sem.run_pure]; simp
      · simp only [ho, hye, Sem.run_bind, hguard, Result.andThen_ok, h2, Sem.run_pure]; simp
    rw [hrun]
    have hrep := (hr.env (prefix_append env [.v (.bool (b != neg))])).put (dst := o.dst) (v := .bool (b != neg)) (sv := .e (.sym env.length) true) hd (.e (d := .v (.bool (b != neg))) (by simp [E.eval]) (.v rfl) fun _ => rfl)
    exact hK _ _ t' _ _ _ (prefix_append env _) (by rw [List.length_append]; exact ht') hd' hrep (hplen _).1 (hplen _).2
  split at hs
  · rename_i x ho
    split at hs
    · rename_i y cf hx0 hx hhs
      cases hs
      simp only [sopT] at ht
      obtain ⟨ks, hks, rfl⟩ := Option.map_eq_some_iff.1 ht
      obtain ⟨d, st, kd, he, hh, hkd, hq⟩ := hden
      obtain ⟨d', he', hrd⟩ := SV.toE_rd hx (hv x)
      simp only [E.eval, he', Option.bind_some, D.m4] at he
      obtain ⟨h1, hob, bs, h2, h3⟩ := hsOf_eval hr hhs
      rw [h1, h2] at hh
      cases hh
      split at he
      case h_2 => cases he
      cases he
      have hrd0 := hrd
      generalize hve : a.eval x = v at hrd
      cases hrd with
      | ifc hd0 =>
        refine wpIn_of_upon (K := K) hnd ?_ fun _ _ h => h
        have hrun : (execOp a.eval o).run P w = .halt (.panic (a.eval x)) w := by
          unfold execOp
          simp only [ho, hve, Instr.panic, goPanic, Sem.run_bind]
          rfl
        rw [hrun]
        exact hp w a σ env ρ _ _ bs hr hrd0 h3 ⟨cf, _, hob⟩ ⟨kd, keepE_rd hr hks hkd (List.prefix_refl _), hq⟩
    · cases hs
  · rename_i ty x y yt ho
    split at hs
    · rename_i e hu
      split at hs
      · rename_i hy
        obtain ⟨x', hx, rfl⟩ := Option.map_eq_some_iff.1 hs
        exact nil ho (.inl ⟨rfl, rfl⟩) ⟨e, hu⟩ hy hx rfl
      · cases hs
    · cases hs
  · rename_i ty x y yt ho
    split at hs
    · rename_i e hu
      split at hs
      · rename_i hy
        obtain ⟨x', hx, rfl⟩ := Option.map_eq_some_iff.1 hs
        exact nil ho (.inr ⟨rfl, rfl⟩) ⟨e, hu⟩ hy hx rfl
      · cases hs
    · cases hs
  · rename_i c ho
    obtain ⟨callee, args, ts⟩ := c
    simp only at hs
    split at hs
    · rename_i c
      split at hs
      · rename_i f cf hE hfv hhs
        split at hs
        · split at hs
          · rename_i fn xs hfn hxs
            split at hs
            · rename_i rs hrs
              split at hs
              · cases hs
              · rename_i hcl
                have hcl : callable P f = true := by simpa using hcl
                obtain ⟨h1, hob, bs, h2, h3⟩ := hsOf_eval hr hhs
                have hc : a.eval c = .func (.func f) #[] #[] := by
                  have := hv c
                  rw [hfv] at this
                  obtain ⟨vs, he, hl', _⟩ := this.func_inv
                  rw [he]
                  have : vs = #[] := by simpa using hl'
                  rw [this]
                have hrun := callable_run (w := w) hcl ho hc
                obtain ⟨ds', hev', hdl, hrd⟩ := toEAll_rd (w := w) (ρ := ρ) (vs := (args.map a.eval).toList) hxs (by simp) (fun i v s hv' hs' => by
                  simp only [Array.toList_map, List.getElem?_map, Option.map_eq_some_iff] at hv' hs'
                  obtain ⟨x, hx', rfl⟩ := hv'
                  obtain ⟨y, hy', rfl⟩ := hs'
                  rw [hx'] at hy'
                  cases hy'
                  exact hv x)
                split at hs
                · split at hs
                  · cases hs
                  · rename_i hro
                    cases hs
                    simp only [sopT] at ht
                    obtain ⟨ks, hks, ht⟩ := Option.bind_eq_some_iff.1 ht
                    obtain ⟨t', ht', rfl⟩ := Option.map_eq_some_iff.1 ht
                    obtain ⟨st, ds, oo, h', hse, hev, hspec, hoo⟩ := hden
                    rw [h1, h2] at hse
                    cases hse
                    rw [hev] at hev'
                    cases hev'
                    refine wpIn_of_upon (K := K) hnd ?_ fun _ _ h => h
                    rw [hrun]
                    refine ⟨fun e => (by cases e), callsIn_wide.2 ?_⟩
                    refine (hspec w ρ.S ρ.foot bs (args.map a.eval) rfl h3 (hr.holdOk hob) (foot_lt hr hob) hr.cells (by simpa using hdl) (fun i v x hv hx' => hrd i v x (by simpa using hv) hx')).mono ?_
                    rintro e w' ⟨v, S', foot', bs', hends, rfl, hst', hk, hS, hos, htp, hout, hsz, hbl, hf', hS2, hS3⟩
                    cases oo with
                    | ret d =>
                      obtain ⟨rfl, hrv⟩ := hends
                      have hpre := prefix_append env [.tup [d, .st bs']]
                      have hix : (E.sym env.length).eval (env ++ [.tup [d, .st bs']]) = some (.tup [d, .st bs']) := by simp [E.eval]
                      have hrep := (hr.env hpre).setStore (x' := .tget 1 (.sym env.length)) hob (by simpa using hro) (by simp only [E.eval] at hix ⊢; rw [hix]; rfl) hst' hk hS hos htp hout hsz hbl hf' hS2 hS3
                      have hset : setH σ (.tget 1 (.sym env.length)) = σ.setObj HID (some (.store cf (.tget 1 (.sym env.length)))) := by unfold setH; rw [hhs]
                      refine hK _ _ t' _ _ _ hpre (by rw [List.length_append]; exact ht') hoo.2 (hset ▸ hrep.put (dst := o.dst) (by rw [SState.tmps_setObj]; exact hd) (resSV_rd (by simp only [E.eval] at hix ⊢; rw [hix]; rfl) hrv hoo.1)) ?_ ?_
                      · rw [hset]; cases o.dst <;> simp [SState.put, SState.tmps_setObj]
                      · rw [hset]; cases o.dst <;> simp [SState.put, SState.mlen_setObj]
                    | pan d =>
                      obtain ⟨rfl, hrv⟩ := hends
                      have hrep := (hr.env (prefix_append env [.st bs'])).setStore (x' := .sym env.length) hob (by simpa using hro) (by simp [E.eval]) hst' hk hS hos htp hout hsz hbl hf' hS2 hS3
                      obtain ⟨kd, hkd, hq⟩ := hoo
                      have hko : keepOf (σ.setObj HID (some (.store cf (.sym env.length)))) = keepOf σ := by
                        unfold keepOf
                        rw [hhs]
                        simp [SState.setObj]
                      have hke : keepE (σ.setObj HID (some (.store cf (.sym env.length)))) = some ks := by
                        unfold keepE at hks ⊢
                        rw [hko]
                        rw [← hks]
                        congr 1
                      exact hp w' a _ _ _ v d bs' hrep hrv hst' ⟨cf, _, by rw [SState.obj_setObj' (.inl rfl), if_pos rfl]⟩ ⟨kd, keepE_rd hrep hke hkd (prefix_append env _), by rw [hko]; exact hq⟩
                · cases hs
                  simp only [sopT] at ht
                  obtain ⟨ks, hks, ht⟩ := Option.bind_eq_some_iff.1 ht
                  obtain ⟨t', ht', rfl⟩ := Option.map_eq_some_iff.1 ht
                  obtain ⟨st, ds, oo, hse, hev, hspec, hoo⟩ := hden
                  rw [h1, h2] at hse
                  cases hse
                  rw [hev] at hev'
                  cases hev'
                  refine wpIn_of_upon (K := K) hnd ?_ fun _ _ h => h
                  rw [hrun]
                  refine ⟨fun e => (by cases e), callsIn_wide.2 ?_⟩
                  refine (hspec w ρ.S ρ.foot bs (args.map a.eval) rfl h3 (hr.holdOk hob) (foot_lt hr hob) hr.cells (by simpa using hdl) (fun i v x hv hx' => hrd i v x (by simpa using hv) hx')).mono ?_
                  rintro e w' ⟨v, S', hends, hbelow, hs1, hsn, hs2, hs3⟩
                  have hrep := hr.behind hbelow hs1 hsn hs2 hs3
                  cases oo with
                  | ret d =>
                    obtain ⟨rfl, hrv⟩ := hends
                    have hpre := prefix_append env [d]
                    exact hK _ _ t' _ _ _ hpre (by rw [List.length_append]; exact ht') hoo.2 ((hrep.env hpre).put (dst := o.dst) hd (resSV_rd (by simp [E.eval]) hrv hoo.1)) (hplen _).1 (hplen _).2
                  | pan d =>
                    obtain ⟨rfl, hrv⟩ := hends
                    obtain ⟨bs2, h4, h5, _⟩ := hrep.objs _ _ hob
                    rw [h2] at h4
                    cases h4
                    obtain ⟨kd, hkd, hq⟩ := hoo
                    exact hp w' a _ _ _ v d bs hrep hrv h5 ⟨cf, _, hob⟩ ⟨kd, keepE_rd hrep hks hkd (List.prefix_refl _), hq⟩
            · cases hs
          · cases hs
        · cases hs
      · rename_i xe sb cf hE hfv hhs
        split at hs
        · split at hs
          · rename_i rs xs hrs hxs
            split at hs
            · cases hs
            · rename_i hro
              cases hs
              obtain ⟨h1, hob, bs, h2, h3⟩ := hsOf_eval hr hhs
              have hcv := hv c
              rw [hfv] at hcv
              obtain ⟨dc, hdc, hrc, _⟩ := hcv.e_inv
              obtain ⟨ds', hev', hdl, hrd⟩ := toEAll_rd (w := w) (ρ := ρ) (vs := (args.map a.eval).toList) hxs (by simp) (fun i v s hv' hs' => by
                simp only [Array.toList_map, List.getElem?_map, Option.map_eq_some_iff] at hv' hs'
                obtain ⟨x, hx', rfl⟩ := hv'
                obtain ⟨y, hy', rfl⟩ := hs'
                rw [hx'] at hy'
                cases hy'
                exact hv x)
              simp only [sopT] at ht
              obtain ⟨ks, hks, ht⟩ := Option.bind_eq_some_iff.1 ht
              obtain ⟨t', ht', rfl⟩ := Option.map_eq_some_iff.1 ht
              obtain ⟨f, us, cs, st, ds, oo, h', hxe, hcl, hse, hev, hspec, hoo⟩ := hden
              rw [hdc] at hxe
              cases hxe
              rw [h1, h2] at hse
              cases hse
              rw [hev] at hev'
              cases hev'
              generalize hvc : a.eval c = vc at hrc
              cases hrc with
              | @fn _ uv cv _ _ hul hcll hur hcr =>
              have hrun : (execOp a.eval o).run P w = .ok (.enter f (uv ++ args.map a.eval ++ cv)) w := by
                unfold callable at hcl
                split at hcl
                · rename_i fn hf
                  simp only [Bool.and_eq_true, Bool.not_eq_true', Option.isSome_iff_ne_none] at hcl
                  have hbn : fn.body.isNone = false := by
                    cases hb : fn.body with
                    | none => exact absurd hb hcl.2
                    | some _ => rfl
                  unfold execOp
                  simp only [ho, resolve, hvc, Deferred.ofValue, invoke, Sem.run_bind, Sem.run_pure, Result.andThen_ok, callFunc, run_program, hf, hcl.1, hbn, Bool.false_eq_true, if_false]
                · cases hcl
              refine wpIn_of_upon (K := K) hnd ?_ fun _ _ h => h
              rw [hrun]
              refine ⟨fun e => (by cases e), callsIn_wide.2 ?_⟩
              refine (hspec w ρ.S ρ.foot bs _ rfl h3 (hr.holdOk hob) (foot_lt hr hob) hr.cells (by simp at hdl; simp [hul, hcll, hdl]) (fun i v x hv hx' => get3 (us := uv.toList) (vs := (args.map a.eval).toList) (ws := cv.toList) (R := fun v x => RdD w ρ.S v x) (by simpa using hul) hdl (fun i u x hu hx => hur i u x (by simpa using hu) hx) hrd (fun i u x hu hx => hcr i u x (by simpa using hu) hx) i v x (by rw [← Array.toList_append, ← Array.toList_append, Array.getElem?_toList]; exact hv) hx')).mono ?_
              rintro e w' ⟨v, S', foot', bs', hends, rfl, hst', hk, hS, hos, htp, hout, hsz, hbl, hf', hS2, hS3⟩
              cases oo with
              | ret d =>
                obtain ⟨rfl, hrv⟩ := hends
                have hpre := prefix_append env [.tup [d, .st bs']]
                have hix : (E.sym env.length).eval (env ++ [.tup [d, .st bs']]) = some (.tup [d, .st bs']) := by simp [E.eval]
                have hrep := (hr.env hpre).setStore (x' := .tget 1 (.sym env.length)) hob (by simpa using hro) (by simp only [E.eval] at hix ⊢; rw [hix]; rfl) hst' hk hS hos htp hout hsz hbl hf' hS2 hS3
                have hset : setH σ (.tget 1 (.sym env.length)) = σ.setObj HID (some (.store cf (.tget 1 (.sym env.length)))) := by unfold setH; rw [hhs]
                refine hK _ _ t' _ _ _ hpre (by rw [List.length_append]; exact ht') hoo.2 (hset ▸ hrep.put (dst := o.dst) (by rw [SState.tmps_setObj]; exact hd) (resSV_rd (by simp only [E.eval] at hix ⊢; rw [hix]; rfl) hrv hoo.1)) ?_ ?_
                · rw [hset]; cases o.dst <;> simp [SState.put, SState.tmps_setObj]
                · rw [hset]; cases o.dst <;> simp [SState.put, SState.mlen_setObj]
              | pan d =>
                obtain ⟨rfl, hrv⟩ := hends
                have hrep := (hr.env (prefix_append env [.st bs'])).setStore (x' := .sym env.length) hob (by simpa using hro) (by simp [E.eval]) hst' hk hS hos htp hout hsz hbl hf' hS2 hS3
                obtain ⟨kd, hkd, hq⟩ := hoo
                have hko : keepOf (σ.setObj HID (some (.store cf (.sym env.length)))) = keepOf σ := by
                  unfold keepOf
                  rw [hhs]
                  simp [SState.setObj]
                have hke : keepE (σ.setObj HID (some (.store cf (.sym env.length)))) = some ks := by
                  unfold keepE at hks ⊢
                  rw [hko]
                  rw [← hks]
                  congr 1
                exact hp w' a _ _ _ v d bs' hrep hrv hst' ⟨cf, _, by rw [SState.obj_setObj' (.inl rfl), if_pos rfl]⟩ ⟨kd, keepE_rd hrep hke hkd (prefix_append env _), by rw [hko]; exact hq⟩
          · cases hs
        · cases hs
      · cases hs
    · cases hs
  · cases hs

theorem den_bind1 {b : Bind} {t : T} {env : List D} {Q : Sig → Prop} (h : den P (.bind b t) env Q) : ∃ d, den P t (env ++ [d]) Q ∧ BindOk P (env ++ [d]) env.length (some b) := by
  obtain ⟨ds, hl, h1, h2⟩ := den_binds (bs := [b]) (t := t) h
  match ds, hl with
  | [d], _ => exact ⟨d, h1, h2 0 b rfl⟩

theorem segs_sound {rd : Option Nat} {nd : Nat} {ops : Array Oper} {Q : Sig → Prop} {Q' : Exit → Act → World → Prop} {k : SKont} (hp : PanQ w0 X Q Q') {N : Nat}
    (hsz : ∀ (j d : Nat), (ops[j]?).bind (fun (o : Oper) => o.dst) = some d → d < N) :
    ∀ {l : List Oper} {σ : SState} {t : T} {env : List D} {a : Act} {w : World} {ρ : Rho}, segs P ops l σ env.length k = some t → den P t env Q → Rep w0 X w a σ env ρ → σ.tmps.length = N → σ.mem.length = N →
      (∀ (σ' : SState) (env' : List D) (t' : T) (a' : Act) (w' : World) (ρ' : Rho), env <+: env' → k σ' env'.length = some t' → den P t' env' Q → Rep w0 X w' a' σ' env' ρ' → σ'.tmps.length = N → σ'.mem.length = N → Q' .normal a' w') → wpListIn (FW rd) nd P ops Q' l a w
  | [], σ, t, env, a, w, ρ, hs, hd, hr, h1, h2, hQ => hQ σ env t a w ρ (List.prefix_refl _) hs hd hr h1 h2
  | o :: r, σ, t, env, a, w, ρ, hs, hd, hr, h1, h2, hQ => by
    simp only [segs] at hs
    have next : ∀ {σ' : SState} {env' : List D} {t' : T} {a' : Act} {w' : World} {ρ' : Rho}, env <+: env' → segs P ops r σ' env'.length k = some t' → den P t' env' Q → Rep w0 X w' a' σ' env' ρ' → σ'.tmps.length = N → σ'.mem.length = N → wpListIn (FW rd) nd P ops Q' r a' w' := by
      intro σ' env' t' a' w' ρ' hpre hs' hd' hr' h1' h2'
      exact segs_sound hp hsz hs' hd' hr' h1' h2' fun σ2 env2 t2 a2 w2 ρ2 hp2 => hQ σ2 env2 t2 a2 w2 ρ2 (hpre.trans hp2)
    split at hs
    · rename_i s hso
      split at hs
      · rename_i hdst
        obtain ⟨hw, hwp⟩ := sop_sound (ops := ops) hso (dstOk_defer hdst) (dstOk_spec hdst) hs hd hr hp (K := wpListIn (FW rd) nd P ops Q' r) fun σ' env' t' a' w' ρ' hpre hk hd' hr' e1 e2 => next hpre hk hd' hr' (e1.trans h1) (e2.trans h2)
        unfold wpListIn
        rw [if_pos hw]
        exact hwp
      · cases hs
    · have go : ∀ {σ' : SState} {b : Option Bind} {env' : List D} {t' : T}, rstep P ops o σ env.length = some (σ', b) → env <+: env' → BindOk P env' env.length b → segs P ops r σ' env'.length k = some t' → den P t' env' Q → wpListIn (FW rd) nd P ops Q' (o :: r) a w := by
        intro σ' b env' t' hst hpre hb hs' hd'
        have hlen := rstep_len hst
        unfold wpListIn
        rcases rstep_sound (hr.env hpre) (by rw [h1, h2]) (List.IsPrefix.length_le hpre) (fun j d hjd => by rw [h1]; exact hsz j d hjd) hst hb with ⟨hw, hok⟩ | ⟨hw, hrep⟩
        · rw [if_pos hw]
          refine wpIn_of_upon (rstep_defer hst) (hok Q') ?_
          rintro a' w' ⟨ρ', hrep⟩
          exact next hpre hs' hd' hrep (hlen.1.trans h1) (hlen.2.trans h2)
        · rw [if_neg (by rw [hw]; simp)]
          refine ⟨fun _ _ => trivial, ?_⟩
          exact next hpre hs' hd' hrep (hlen.1.trans h1) (hlen.2.trans h2)
      split at hs
      · rename_i σ' hst
        exact go hst (List.prefix_refl _) trivial hs hd
      · rename_i σ' b hst
        obtain ⟨t', hs', rfl⟩ := Option.map_eq_some_iff.1 hs
        obtain ⟨d, hd', hb⟩ := den_bind1 hd
        exact go hst (prefix_append env [d]) hb (by rw [List.length_append]; exact hs') hd'
      · cases hs

/-! ## a region whose order is drawn, with a special operation at its end -/

theorem Oper.wpIn_monoQ {F : Fence} {n : Nat} {o : Oper} {a : Act} {w : World} {K : Act → World → Prop} {Q1 Q2 : Exit → Act → World → Prop} (h1 : ∀ c a w, Q1 (.panic c) a w → Q2 (.panic c) a w) (h2 : ∀ a w, Q1 .outgrown a w → Q2 .outgrown a w) (h : o.wpIn F n P a w K Q1) : o.wpIn F n P a w K Q2 := by
  unfold Oper.wpIn at *
  refine ⟨h.1, ?_⟩
  have h := h.2
  have hl : LetsOut Q1 → LetsOut Q2 := fun ⟨a, w, h⟩ => ⟨a, w, h2 a w h⟩
  generalize (o.semAt F.round a.eval).run P w = r at *
  cases r with
  | ok n w' =>
    cases n <;> simp only [Oper.uponIn] at h ⊢ <;>
      first
        | exact h
        | exact ⟨h.1, CallsIn.mono h.2 (fun e w'' he => by cases e <;> first | exact he | exact h1 _ _ _ he | exact hl he)⟩
        | exact ⟨h.1, RowsIn.mono h.2 (fun _ _ he => he)⟩
        | exact ⟨h.1, RoundIn.mono h.2 (fun e w'' he => by cases e <;> first | exact he | exact h1 _ _ _ he | exact hl he)⟩
  | halt x w' => cases x <;> simp only [Oper.uponIn] at h ⊢ <;> first | exact h1 _ _ _ h | exact h

def lastOk (ops : Array Oper) : Bool :=
  (List.range (ops.size - 1)).all (fun j => ((masks ops.toList []).getD (ops.size - 1) 0).testBit j) && (List.range ops.size).all fun i => match ops[i]? with
    | some o => (i == ops.size - 1 || match o.guard with | some (j, _) => decide (j < ops.size - 1) | none => true) && o.after.all fun e => !Region.binds .any e || decide (e.on < i)
    | none => false

theorem yielded_pop {ops : Array Oper} {tmps : Array Value} {j : Nat} (hj : j < ops.size - 1) : yielded ops.pop tmps j = yielded ops tmps j := by
  unfold yielded
  rw [Array.getElem?_pop]
  simp [hj]

theorem wpAny_last {F : Fence} {n : Nat} {ops : Array Oper} {Q : Exit → Act → World → Prop} (h0 : 0 < ops.size) (hl : lastOk ops = true) :
    ∀ (fuel : Nat) (listed : Array Bool) (a : Act) (w : World), listed.size = ops.size - 1 → Closed ops (doneOf listed) →
      wpAnyIn F n P .any ops.pop (fun e a w => match e with | .normal => wpOpIn F n P ops Q (ops.size - 1) (Q .normal) a w | e => Q e a w) fuel listed a w → wpAnyIn F n P .any ops Q (fuel + 1) (listed.push false) a w := by
  simp only [lastOk, Bool.and_eq_true, List.all_eq_true, List.mem_range] at hl
  obtain ⟨hlast, hall⟩ := hl
  have hat : ∀ (i : Nat) (o : Oper), ops[i]? = some o → (i < ops.size - 1 → ∀ j b, o.guard = some (j, b) → j < ops.size - 1) ∧ ∀ e, e ∈ o.after → Region.binds .any e = true → e.on < i := by
    intro i o ho
    have := hall i (Array.getElem?_eq_some_iff.1 ho).1
    rw [ho] at this
    simp only [Bool.and_eq_true, Bool.or_eq_true, beq_iff_eq] at this
    refine ⟨fun hi j b hg => ?_, fun e he hb => ?_⟩
    · have h1 := this.1.resolve_left (by omega)
      rw [hg] at h1
      simpa using h1
    · have := Array.all_eq_true'.1 this.2 e he
      simpa [hb] using this
  have hget : ∀ (listed : Array Bool) (j : Nat), listed.size = ops.size - 1 → j < ops.size - 1 → ∀ d, (listed.push false).getD j d = listed.getD j false := by
    intro listed j hs hj d
    simp only [Array.getD_eq_getD_getElem?]
    rw [Array.getElem?_push_lt (by omega)]
    simp [show j < listed.size by omega]
  have hgetm : ∀ (listed : Array Bool), listed.size = ops.size - 1 → ∀ d, (listed.push false).getD (ops.size - 1) d = false := by
    intro listed hs d
    simp only [Array.getD_eq_getD_getElem?, ← hs, Array.getElem?_push_size]
    rfl
  have hpop : ∀ i, i < ops.size - 1 → ops.pop[i]? = ops[i]? := fun i hi => by rw [Array.getElem?_pop]; simp [hi]
  have step : ∀ (fuel : Nat) (listed : Array Bool) (a : Act) (w : World), listed.size = ops.size - 1 → Closed ops (doneOf listed) →
      wpAnyIn F n P .any ops.pop (fun e a w => match e with | .normal => wpOpIn F n P ops Q (ops.size - 1) (Q .normal) a w | e => Q e a w) fuel listed a w →
      (∀ f, fuel = f + 1 → ∀ (listed : Array Bool) (a : Act) (w : World), listed.size = ops.size - 1 → Closed ops (doneOf listed) →
        wpAnyIn F n P .any ops.pop (fun e a w => match e with | .normal => wpOpIn F n P ops Q (ops.size - 1) (Q .normal) a w | e => Q e a w) f listed a w → wpAnyIn F n P .any ops Q (f + 1) (listed.push false) a w) →
      wpAnyIn F n P .any ops Q (fuel + 1) (listed.push false) a w := by
    intro fuel listed a w hs hcl h ih
    have hgd : ∀ (j : Nat), j < ops.size - 1 → listed.getD j true = listed.getD j false := fun j hj => by
      simp only [Array.getD_eq_getD_getElem?]
      simp [show j < listed.size by omega]
    refine ⟨fun hnil => ?_, fun i hi => ?_⟩
    · exfalso
      have hdone : ∀ j, j < ops.size → (listed.push false).getD j false = true := by
        intro j
        induction j using Nat.strongRecOn with
        | _ j ihj =>
          intro hj
          refine Classical.byContradiction fun hnd => ?_
          have hmem : j ∈ Region.ready .any ops (listed.push false) := by
            refine mem_ready.2 ⟨?_, ops[j], Array.getElem?_eq_getElem hj, fun e he hb => ?_⟩
            · rcases Nat.lt_or_ge j (ops.size - 1) with hlt | hge
              · rw [hget listed j hs hlt] at hnd ⊢
                simpa using hnd
              · have : j = ops.size - 1 := by omega
                rw [this, hgetm listed hs]
            · have := (hat j ops[j] (Array.getElem?_eq_getElem hj)).2 e he hb
              exact ihj e.on this (by omega)
          rw [hnil] at hmem
          cases hmem
      have := hdone (ops.size - 1) (by omega)
      rw [hgetm listed hs] at this
      cases this
    · obtain ⟨h1, o, ho, ha⟩ := mem_ready.1 hi
      have hin := (Array.getElem?_eq_some_iff.1 ho).1
      rcases Nat.lt_or_ge i (ops.size - 1) with hlt | hge
      · have hia : ∀ e, e ∈ o.after → Region.binds .any e = true → listed.getD e.on false = true := fun e he hb => by
          have h2 := ha e he hb
          have h3 := (hat i o ho).2 e he hb
          rwa [hget listed e.on hs (by omega)] at h2
        have hi' : i ∈ Region.ready .any ops.pop listed := by
          refine mem_ready.2 ⟨?_, o, by rw [hpop i hlt]; exact ho, hia⟩
          rw [hget listed i hs hlt] at h1
          rw [hgd i hlt]
          exact h1
        cases fuel with
        | zero => rw [h.1] at hi'; cases hi'
        | succ f =>
          have h2 := h.2 i hi'
          have hset : (listed.push false).setIfInBounds i true = (listed.setIfInBounds i true).push false := by
            apply Array.ext'
            rw [Array.toList_setIfInBounds, Array.toList_push, Array.toList_push, Array.toList_setIfInBounds, List.set_append_left _ _ (by simpa using (by omega : i < listed.size))]
          have hcl' : Closed ops (doneOf (listed.setIfInBounds i true)) := by
            intro k ok hk hok e he hb
            simp only [doneOf, Array.getD_eq_getD_getElem?, Array.getElem?_setIfInBounds] at hk ⊢
            by_cases hki : i = k
            · subst hki
              rw [ho] at hok
              cases hok
              have := hia e he hb
              simp only [Array.getD_eq_getD_getElem?] at this
              split
              · rename_i hh; simp [show i < listed.size by omega]
              · exact this
            · rw [if_neg hki] at hk
              have := hcl k ok (by simpa [doneOf, Array.getD_eq_getD_getElem?] using hk) hok e he hb
              simp only [doneOf, Array.getD_eq_getD_getElem?] at this
              split
              · simp [show i < listed.size by omega]
              · exact this
          have hnext := ih f rfl
          unfold wpOpIn at h2 ⊢
          rw [hpop i hlt, ho] at h2
          rw [ho]
          simp only at h2 ⊢
          have hwant : Region.wanted o (yielded ops.pop a.tmps) = Region.wanted o (yielded ops a.tmps) := by
            unfold Region.wanted
            cases hg : o.guard with
            | none => rfl
            | some g =>
              obtain ⟨j, b⟩ := g
              simp only
              rw [yielded_pop ((hat i o ho).1 hlt j b hg)]
          rw [hwant] at h2
          have fin : ∀ a' w', wpAnyIn F n P .any ops.pop (fun e a w => match e with | .normal => wpOpIn F n P ops Q (ops.size - 1) (Q .normal) a w | e => Q e a w) f (listed.setIfInBounds i true) a' w' → wpAnyIn F n P .any ops Q (f + 1) ((listed.push false).setIfInBounds i true) a' w' := by
            intro a' w' h3
            rw [hset]
            exact hnext _ a' w' (by simp [hs]) hcl' h3
          split
          · rename_i hw
            rw [if_pos hw] at h2
            exact Oper.wpIn_mono fin (Oper.wpIn_monoQ (fun _ _ _ h => h) (fun _ _ h => h) h2)
          · rename_i hw
            rw [if_neg hw] at h2
            exact ⟨h2.1, fin _ _ h2.2⟩
      · obtain rfl : i = ops.size - 1 := by omega
        have hia : ∀ e, e ∈ o.after → Region.binds .any e = true → doneOf listed e.on = true := fun e he hb => by
          have h2 := ha e he hb
          have h3 := (hat _ o ho).2 e he hb
          rwa [hget listed e.on hs h3] at h2
        have hdone : ∀ j, j < ops.size - 1 → doneOf listed j = true := fun j hj => masks_spec hcl ho hia (hlast j hj)
        have hnil : Region.ready .any ops.pop listed = [] := by
          cases hr : Region.ready .any ops.pop listed with
          | nil => rfl
          | cons j l =>
            have hmem : j ∈ Region.ready .any ops.pop listed := by rw [hr]; simp
            obtain ⟨h3, o', ho', _⟩ := mem_ready.1 hmem
            have hj : j < ops.size - 1 := by simpa using (Array.getElem?_eq_some_iff.1 ho').1
            rw [hgd j hj] at h3
            have := hdone j hj
            simp only [doneOf] at this
            rw [this] at h3
            cases h3
        have hq : wpOpIn F n P ops Q (ops.size - 1) (Q .normal) a w := by
          cases fuel with
          | zero => exact h.2
          | succ f => exact h.1 hnil
        refine wpOpIn_mono (fun a' w' hq' => ?_) hq
        have hall' : Region.ready .any ops ((listed.push false).setIfInBounds (ops.size - 1) true) = [] := by
          cases hr : Region.ready .any ops ((listed.push false).setIfInBounds (ops.size - 1) true) with
          | nil => rfl
          | cons j l =>
            have hmem : j ∈ Region.ready .any ops ((listed.push false).setIfInBounds (ops.size - 1) true) := by rw [hr]; simp
            obtain ⟨h3, o', ho', _⟩ := mem_ready.1 hmem
            have hj : j < ops.size := (Array.getElem?_eq_some_iff.1 ho').1
            simp only [Array.getD_eq_getD_getElem?, Array.getElem?_setIfInBounds] at h3
            split at h3
            · simp [hs] at h3
            · rename_i hne
              have hj' : j < ops.size - 1 := by omega
              have := hdone j hj'
              have h4 := hget listed j hs hj' true
              simp only [Array.getD_eq_getD_getElem?] at h4
              rw [h4] at h3
              simp only [doneOf, Array.getD_eq_getD_getElem?] at this
              rw [this] at h3
              cases h3
        cases fuel with
        | zero => exact ⟨hall', hq'⟩
        | succ f => exact ⟨fun _ => hq', fun j hj => by rw [hall'] at hj; cases hj⟩
  have hgd : ∀ (listed : Array Bool) (j : Nat), listed.size = ops.size - 1 → j < ops.size - 1 → listed.getD j true = listed.getD j false := fun listed j hs hj => by
    simp only [Array.getD_eq_getD_getElem?]
    simp [show j < listed.size by omega]
  intro fuel
  induction fuel with
  | zero =>
    intro listed a w hs hcl h
    exact step 0 listed a w hs hcl h fun f hf => by omega
  | succ fuel ih =>
    intro listed a w hs hcl h
    exact step (fuel + 1) listed a w hs hcl h fun f hf => by
      obtain rfl : f = fuel := by omega
      exact ih

end
end Go.Am

/-
  Where ways meet: one symbolic state fits a more general one, whose new names stand for data.
-/
namespace Go.Am

def E.upto (n : Nat) : E → Bool
  | .sym k => decide (k < n)
  | .const _ | .nil | .tnil => true
  | .bin _ _ a b | .idx a b | .idxN _ a b | .cons a b | .app _ _ a b | .lcons a b | .mkfn _ a b | .guard a _ b | .tcons a b | .mm _ a b | .eaddr _ a b | .ld _ _ a b | .newb _ _ a b | .newv _ _ a b | .fstsl a b | .frzv _ a b | .frzh a b => a.upto n && b.upto n
  | .un _ a | .conv _ a | .lenL a | .lenS a | .scal a | .cell _ a | .cells _ _ a | .aggN _ a | .one a | .tget _ a | .rep _ a _ | .deref a | .ifc _ a | .mkptr a | .padd _ a | .nn a | .fstid a => a.upto n
  | .sub _ a b c | .ite a b c | .sto _ a b c | .apph _ _ _ a b c | .apps a b c => a.upto n && b.upto n && c.upto n
  | .set a b _ c => a.upto n && b.upto n && c.upto n
  | .m4 _ a b c d => a.upto n && b.upto n && c.upto n && d.upto n

theorem E.eval_upto {n : Nat} {env env' : List D} (h : ∀ k, k < n → env[k]? = env'[k]?) : ∀ {x : E}, x.upto n = true → x.eval env = x.eval env' := by
  intro x
  induction x <;> intro hb <;> simp only [E.upto, Bool.and_eq_true, decide_eq_true_eq] at hb <;> simp only [E.eval]
  case sym k => exact h k hb
  all_goals first
    | rfl
    | (rename_i ih; rw [ih hb])
    | (rename_i i1 i2; rw [i1 hb.1, i2 hb.2])
    | (rename_i i1 i2 i3; rw [i1 hb.1.1, i2 hb.1.2, i3 hb.2])
    | (rename_i i1 i2 i3 i4; rw [i1 hb.1.1.1, i2 hb.1.1.2, i3 hb.1.2, i4 hb.2])

mutual
def SV.upto (n : Nat) : SV → Bool
  | .junk | .addr _ _ | .slc _ => true
  | .e x _ | .eaddr _ x _ _ | .iptr x _ | .own x _ => x.upto n
  | .agg cs | .tup cs => SV.uptoAll n cs
  | .func _ cs => SV.uptoAll n cs
  | .cond act sv => act.all (fun p => p.1.upto n) && sv.upto n
def SV.uptoAll (n : Nat) : List SV → Bool
  | [] => true
  | s :: r => s.upto n && SV.uptoAll n r
end

theorem SV.uptoAll_get {n : Nat} : ∀ {cs : List SV} {i : Nat} {c : SV}, SV.uptoAll n cs = true → cs[i]? = some c → c.upto n = true
  | [], i, c, _, h => by simp at h
  | s :: r, 0, c, h, hi => by simp [SV.uptoAll] at h hi; exact hi ▸ h.1
  | s :: r, i + 1, c, h, hi => by simp [SV.uptoAll] at h hi; exact SV.uptoAll_get h.2 hi

theorem SRd.cut {w : World} {ρ : Rho} {n : Nat} {env env' : List D} {v : Value} {sv : SV} (h : SRd w ρ env v sv) (he : ∀ k, k < n → env[k]? = env'[k]?) (hb : sv.upto n = true) : SRd w ρ env' v sv := by
  induction h with
  | junk => exact .junk
  | e hx h h1 => exact .e ((E.eval_upto he (by simpa [SV.upto] using hb)) ▸ hx) h h1
  | agg hl ho _ ih => exact .agg hl ho fun i v c hv hc => ih i v c hv hc (SV.uptoAll_get (by simpa [SV.upto] using hb) hc)
  | tup hl _ ih => exact .tup hl fun i v c hv hc => ih i v c hv hc (SV.uptoAll_get (by simpa [SV.upto] using hb) hc)
  | addr => exact .addr
  | eaddr hx => exact .eaddr ((E.eval_upto he (by simpa [SV.upto] using hb)) ▸ hx)
  | iptr hx h => exact .iptr ((E.eval_upto he (by simpa [SV.upto] using hb)) ▸ hx) h
  | own hx h hv => exact .own ((E.eval_upto he (by simpa [SV.upto] using hb)) ▸ hx) h hv
  | slc => exact .slc
  | func hl _ ih => exact .func hl fun i v c hv hc => ih i v c hv hc (SV.uptoAll_get (by simpa [SV.upto] using hb) hc)
  | @cond v act sv hd _ hn ih =>
    simp only [SV.upto, Bool.and_eq_true, List.all_eq_true] at hb
    have hev : ∀ p, p ∈ act → p.1.eval env = p.1.eval env' := fun p hp => E.eval_upto he (hb.1 p hp)
    have hact : actHolds env act ↔ actHolds env' act := ⟨fun h p hp => (hev p hp) ▸ h p hp, fun h p hp => (hev p hp).symm ▸ h p hp⟩
    exact .cond (fun p hp => let ⟨d, h⟩ := hd p hp; ⟨d, (hev p hp) ▸ h⟩) (fun ha => ih (hact.2 ha) hb.2) fun ha => hn fun h => ha (hact.1 h)

def isPhi (base n : Nat) : E → Bool
  | .sym k => decide (k = base + n)
  | _ => false

mutual
def matchSV (base : Nat) : SV → SV → List E → Option (List E)
  | .junk, _, acc => some acc
  | .e x s, sv, acc =>
    if isPhi base acc.length x then (match s, sv with
      | true, .e y true => some (acc ++ [y])
      | true, .own y _ => some (acc ++ [y])
      | false, sv => sv.toE.map fun y => acc ++ [y]
      | _, _ => none)
    else if (SV.e x s).same sv && x.upto base then some acc else none
  | .own x k, sv, acc =>
    if isPhi base acc.length x then (match sv with
      | .own y k' => if k = k' then some (acc ++ [y]) else none
      | _ => none)
    else if (SV.own x k).same sv && x.upto base then some acc else none
  | .agg ts, sv, acc => match sv with
    | .agg cs => matchSVs base ts cs acc
    | _ => none
  | .tup ts, sv, acc => if (SV.tup ts).same sv && SV.uptoAll base ts then some acc else none
  | .addr o f, sv, acc => if (SV.addr o f).same sv then some acc else none
  | .eaddr o x s f, sv, acc => if (SV.eaddr o x s f).same sv && x.upto base then some acc else none
  | .iptr x f, sv, acc => if (SV.iptr x f).same sv && x.upto base then some acc else none
  | .slc o, sv, acc => if (SV.slc o).same sv then some acc else none
  | .func fn ts, sv, acc => if (SV.func fn ts).same sv && SV.uptoAll base ts then some acc else none
  | .cond _ _, _, _ => none
def matchSVs (base : Nat) : List SV → List SV → List E → Option (List E)
  | [], [], acc => some acc
  | t :: ts, s :: ss, acc => (matchSV base t s acc).bind fun acc => matchSVs base ts ss acc
  | _, _, _ => none
end

def matchObj (base : Nat) : SObj → SObj → List E → Option (List E)
  | .box ts, .box cs, acc => matchSVs base ts cs acc
  | .row x sz, .row y sz', acc => if sz = sz' then (if isPhi base acc.length x then some (acc ++ [y]) else if x.same y && x.upto base then some acc else none) else none
  | .tok e sz, .tok e' sz', acc => if e = e' ∧ sz = sz' then some acc else none
  | .store cf x, .store cf' y, acc => if cf = cf' then (if isPhi base acc.length x then some (acc ++ [y]) else if x.same y && x.upto base then some acc else none) else none
  | _, _, _ => none

def matchMem (base : Nat) : List (Option SObj) → List (Option SObj) → List E → Option (List E)
  | [], [], acc => some acc
  | none :: ts, _ :: ss, acc => matchMem base ts ss acc
  | some t :: ts, some s :: ss, acc => (matchObj base t s acc).bind fun acc => matchMem base ts ss acc
  | _, _, _ => none

def matchH (base : Nat) : Option SObj → Option SObj → List E → Option (List E)
  | none, _, acc => some acc
  | some t, some s, acc => matchObj base t s acc
  | _, _, _ => none

def matchS (base : Nat) (tm σ : SState) : Option (List E) := if HID < tm.mem.length then none else
  (matchSVs base tm.tmps σ.tmps []).bind fun acc => (matchMem base tm.mem σ.mem acc).bind fun acc => matchH base tm.hs σ.hs acc

section
variable {w w0 : World} {X : Ent} {a : Act} {env : List D} {ρ : Rho}

theorem evalAll_append : ∀ {l m : List E} {ds : List D}, evalAll env (l ++ m) = some ds → ∃ d1 d2, evalAll env l = some d1 ∧ evalAll env m = some d2 ∧ ds = d1 ++ d2
  | [], m, ds, h => ⟨[], ds, rfl, h, rfl⟩
  | x :: r, m, ds, h => by
    simp only [List.cons_append, evalAll, Option.bind_eq_some_iff, Option.map_eq_some_iff] at h
    obtain ⟨d, h1, ds', h2, rfl⟩ := h
    obtain ⟨d1, d2, h3, h4, rfl⟩ := evalAll_append h2
    exact ⟨d :: d1, d2, by simp [evalAll, h1, h3], h4, rfl⟩

theorem evalAll_length : ∀ {l : List E} {ds : List D}, evalAll env l = some ds → ds.length = l.length
  | [], ds, h => by simp [evalAll] at h; simp [← h]
  | x :: r, ds, h => by
    simp only [evalAll, Option.bind_eq_some_iff, Option.map_eq_some_iff] at h
    obtain ⟨d, _, ds', h2, rfl⟩ := h
    simp [evalAll_length h2]

abbrev cutEnv (env : List D) (base : Nat) (ds : List D) : List D := env.take base ++ ds

theorem cutEnv_old {base : Nat} {ds : List D} (hb : base ≤ env.length) : ∀ k, k < base → env[k]? = (cutEnv env base ds)[k]? := by
  intro k hk
  rw [List.getElem?_append_left (by simp; omega), List.getElem?_take, if_pos hk]

theorem phi_eval {base : Nat} {acc accF : List E} {y x : E} {ds : List D} (hb : base ≤ env.length) (hx : isPhi base acc.length x = true) (hp : acc ++ [y] <+: accF) (hd : evalAll env accF = some ds) : x.eval (cutEnv env base ds) = y.eval env := by
  obtain ⟨r, rfl⟩ := hp
  obtain ⟨d1, d2, h1, _, rfl⟩ := evalAll_append hd
  obtain ⟨d3, d4, h3, h4, rfl⟩ := evalAll_append h1
  simp only [evalAll, Option.bind_eq_some_iff, Option.map_some, Option.some.injEq] at h4
  obtain ⟨d, hy, rfl⟩ := h4
  unfold isPhi at hx
  split at hx
  · simp only [decide_eq_true_eq] at hx
    subst hx
    have hl := evalAll_length h3
    simp only [E.eval, cutEnv, hy]
    rw [List.getElem?_append_right (by simp; omega)]
    simp only [List.length_take, Nat.min_eq_left hb, Nat.add_sub_cancel_left, List.append_assoc]
    rw [← hl]
    simp
  · cases hx

theorem prefix_append' {α : Type} (a b : List α) : a <+: a ++ b := ⟨b, rfl⟩

mutual
theorem matchSV_pre {base : Nat} : ∀ {t sv : SV} {acc acc' : List E}, matchSV base t sv acc = some acc' → acc <+: acc'
  | .junk, sv, acc, acc', h => by simp [matchSV] at h; subst h; exact ⟨[], by simp⟩
  | .e x s, sv, acc, acc', h => by
    simp only [matchSV] at h
    split at h
    · split at h
      · cases h; exact prefix_append' _ _
      · cases h; exact prefix_append' _ _
      · obtain ⟨y, _, rfl⟩ := Option.map_eq_some_iff.1 h; exact prefix_append' _ _
      · cases h
    · split at h
      · cases h; exact ⟨[], by simp⟩
      · cases h
  | .own x k, sv, acc, acc', h => by
    simp only [matchSV] at h
    split at h
    · split at h
      · split at h
        · cases h; exact prefix_append' _ _
        · cases h
      · cases h
    · split at h
      · cases h; exact ⟨[], by simp⟩
      · cases h
  | .agg ts, sv, acc, acc', h => by
    simp only [matchSV] at h
    split at h
    · exact matchSVs_pre h
    · cases h
  | .tup ts, sv, acc, acc', h | .addr _ _, sv, acc, acc', h | .eaddr _ _ _ _, sv, acc, acc', h | .iptr _ _, sv, acc, acc', h | .slc _, sv, acc, acc', h | .func _ _, sv, acc, acc', h => by
    simp only [matchSV] at h
    split at h
    · cases h; exact ⟨[], by simp⟩
    · cases h
  | .cond _ _, sv, acc, acc', h => by simp [matchSV] at h
theorem matchSVs_pre {base : Nat} : ∀ {ts ss : List SV} {acc acc' : List E}, matchSVs base ts ss acc = some acc' → acc <+: acc'
  | [], [], acc, acc', h => by simp [matchSVs] at h; subst h; exact ⟨[], by simp⟩
  | t :: ts, s :: ss, acc, acc', h => by
    simp only [matchSVs, Option.bind_eq_some_iff] at h
    obtain ⟨acc1, h1, h2⟩ := h
    exact (matchSV_pre h1).trans (matchSVs_pre h2)
  | [], _ :: _, _, _, h | _ :: _, [], _, _, h => by simp [matchSVs] at h
end


theorem SRd.same_rd {base : Nat} {ds : List D} {t sv : SV} {v : Value} (hb : base ≤ env.length) (h : t.same sv = true) (hu : t.upto base = true) (hr : SRd w ρ env v sv) : SRd w ρ (cutEnv env base ds) v t := by
  have e := SV.same_eq h
  subst e
  exact hr.cut (cutEnv_old hb) hu

mutual
theorem matchSV_rd {base : Nat} {accF : List E} {ds : List D} (hb : base ≤ env.length) (hd : evalAll env accF = some ds) : ∀ {t sv : SV} {acc acc' : List E} {v : Value}, matchSV base t sv acc = some acc' → acc' <+: accF → SRd w ρ env v sv → SRd w ρ (cutEnv env base ds) v t
  | .junk, sv, acc, acc', v, h, hp, hr => .junk
  | .e x s, sv, acc, acc', v, h, hp, hr => by
    simp only [matchSV] at h
    split at h
    · rename_i hx
      split at h
      · cases h
        obtain ⟨d, hd', hrd, h1⟩ := hr.e_inv
        exact .e ((phi_eval hb hx hp hd).trans hd') hrd h1
      · cases h
        obtain ⟨es, hd', hrd, _⟩ := hr.own_inv
        exact .e ((phi_eval hb hx hp hd).trans hd') hrd fun _ => rfl
      · obtain ⟨y, hy, rfl⟩ := Option.map_eq_some_iff.1 h
        obtain ⟨d, hd', hrd⟩ := SV.toE_rd hy hr
        exact .e ((phi_eval hb hx hp hd).trans hd') hrd (by simp)
      · cases h
    · split at h
      · rename_i hc
        simp only [Bool.and_eq_true] at hc
        exact hr.same_rd hb hc.1 (by simpa [SV.upto] using hc.2)
      · cases h
  | .own x k, sv, acc, acc', v, h, hp, hr => by
    simp only [matchSV] at h
    split at h
    · rename_i hx
      split at h
      · split at h
        · rename_i hk
          cases h
          subst hk
          obtain ⟨es, hd', hrd, h1⟩ := hr.own_inv
          exact .own ((phi_eval hb hx hp hd).trans hd') hrd h1
        · cases h
      · cases h
    · split at h
      · rename_i hc
        simp only [Bool.and_eq_true] at hc
        exact hr.same_rd hb hc.1 (by simpa [SV.upto] using hc.2)
      · cases h
  | .agg ts, sv, acc, acc', v, h, hp, hr => by
    simp only [matchSV] at h
    split at h
    · obtain ⟨vs, rfl, hl, ho, hh⟩ := hr.agg_inv
      obtain ⟨hlen, hall⟩ := matchSVs_rd (vs := vs.toList) hb hd h hp (by simpa using hl) (fun i v c hv hc => hh i v c (by simpa using hv) hc)
      exact .agg (by rw [hl, hlen]) ho fun i v c hv hc => hall i v c (by simpa using hv) hc
    · cases h
  | .tup ts, sv, acc, acc', v, h, hp, hr => by
    simp only [matchSV] at h
    split at h
    · rename_i hc
      simp only [Bool.and_eq_true] at hc
      exact hr.same_rd hb hc.1 (by simpa [SV.upto] using hc.2)
    · cases h
  | .addr o f, sv, acc, acc', v, h, hp, hr => by
    simp only [matchSV] at h
    split at h
    · rename_i hc
      exact hr.same_rd hb hc (by simp [SV.upto])
    · cases h
  | .eaddr o x s f, sv, acc, acc', v, h, hp, hr => by
    simp only [matchSV] at h
    split at h
    · rename_i hc
      simp only [Bool.and_eq_true] at hc
      exact hr.same_rd hb hc.1 (by simpa [SV.upto] using hc.2)
    · cases h
  | .iptr x f, sv, acc, acc', v, h, hp, hr => by
    simp only [matchSV] at h
    split at h
    · rename_i hc
      simp only [Bool.and_eq_true] at hc
      exact hr.same_rd hb hc.1 (by simpa [SV.upto] using hc.2)
    · cases h
  | .slc o, sv, acc, acc', v, h, hp, hr => by
    simp only [matchSV] at h
    split at h
    · rename_i hc
      exact hr.same_rd hb hc (by simp [SV.upto])
    · cases h
  | .func fn ts, sv, acc, acc', v, h, hp, hr => by
    simp only [matchSV] at h
    split at h
    · rename_i hc
      simp only [Bool.and_eq_true] at hc
      exact hr.same_rd hb hc.1 (by simpa [SV.upto] using hc.2)
    · cases h
  | .cond _ _, sv, acc, acc', v, h, hp, hr => by simp [matchSV] at h
theorem matchSVs_rd {base : Nat} {accF : List E} {ds : List D} (hb : base ≤ env.length) (hd : evalAll env accF = some ds) : ∀ {ts ss : List SV} {acc acc' : List E} {vs : List Value}, matchSVs base ts ss acc = some acc' → acc' <+: accF → vs.length = ss.length →
    (∀ (i : Nat) (v : Value) (c : SV), vs[i]? = some v → ss[i]? = some c → SRd w ρ env v c) → ss.length = ts.length ∧ ∀ (i : Nat) (v : Value) (c : SV), vs[i]? = some v → ts[i]? = some c → SRd w ρ (cutEnv env base ds) v c
  | [], [], acc, acc', vs, h, hp, hl, hh => ⟨rfl, by simp⟩
  | t :: ts, s :: ss, acc, acc', vs, h, hp, hl, hh => by
    match vs, hl with
    | v :: vs, hl =>
      simp only [matchSVs, Option.bind_eq_some_iff] at h
      obtain ⟨acc1, h1, h2⟩ := h
      have hr := matchSV_rd hb hd h1 ((matchSVs_pre h2).trans hp) (hh 0 v s rfl rfl)
      obtain ⟨hlen, hall⟩ := matchSVs_rd (vs := vs) hb hd h2 hp (by simpa using hl) (fun i v c hv hc => hh (i + 1) v c (by simpa using hv) (by simpa using hc))
      refine ⟨by simp [hlen], fun i v' c hv hc => ?_⟩
      cases i with
      | zero => simp at hv hc; subst hv hc; exact hr
      | succ i => exact hall i v' c (by simpa using hv) (by simpa using hc)
  | [], _ :: _, _, _, _, h, _, _, _ | _ :: _, [], _, _, _, h, _, _, _ => by simp [matchSVs] at h
end

theorem matchObj_pre {base : Nat} {t s : SObj} {acc acc1 : List E} (h1 : matchObj base t s acc = some acc1) : acc <+: acc1 := by
  unfold matchObj at h1
  split at h1
  · exact matchSVs_pre h1
  · split at h1
    · split at h1
      · cases h1; exact prefix_append' _ _
      · split at h1
        · cases h1; exact ⟨[], by simp⟩
        · cases h1
    · cases h1
  · split at h1
    · cases h1; exact ⟨[], by simp⟩
    · cases h1
  · split at h1
    · split at h1
      · cases h1; exact prefix_append' _ _
      · split at h1
        · cases h1; exact ⟨[], by simp⟩
        · cases h1
    · cases h1
  · cases h1

theorem matchH_pre {base : Nat} {t s : Option SObj} {acc acc1 : List E} (h1 : matchH base t s acc = some acc1) : acc <+: acc1 := by
  unfold matchH at h1
  split at h1
  · cases h1; exact ⟨[], by simp⟩
  · exact matchObj_pre h1
  · cases h1

theorem matchMem_pre {base : Nat} : ∀ {ts ss : List (Option SObj)} {acc acc' : List E}, matchMem base ts ss acc = some acc' → acc <+: acc'
  | [], [], acc, acc', h => by simp [matchMem] at h; subst h; exact ⟨[], by simp⟩
  | none :: ts, _ :: ss, acc, acc', h => by simp only [matchMem] at h; exact matchMem_pre h
  | some t :: ts, some s :: ss, acc, acc', h => by
    simp only [matchMem, Option.bind_eq_some_iff] at h
    obtain ⟨acc1, h1, h2⟩ := h
    exact List.IsPrefix.trans (matchObj_pre h1) (matchMem_pre h2)
  | some _ :: _, none :: _, _, _, h | [], _ :: _, _, _, h | some _ :: _, [], _, _, h | none :: _, [], _, _, h => by simp [matchMem] at h

theorem matchObj_ok {base o : Nat} {accF : List E} {ds : List D} (hb : base ≤ env.length) (hd : evalAll env accF = some ds) {t s : SObj} {acc acc' : List E} (h : matchObj base t s acc = some acc') (hp : acc' <+: accF) (hok : ObjOk w ρ env o s) :
    ObjOk w ρ (cutEnv env base ds) o t ∧ objBlk ρ o t = objBlk ρ o s ∧ t.ro = s.ro := by
  unfold matchObj at h
  split at h
  · obtain ⟨vs, ty, h1, h2, h3, h4, h5⟩ := hok
    obtain ⟨hlen, hall⟩ := matchSVs_rd (w := w) (ρ := ρ) (vs := vs.toList) hb hd h hp (by simpa using h2) (fun i v c hv hc => h4 i v c (by simpa using hv) hc)
    exact ⟨⟨vs, ty, h1, by omega, h3, fun i v c hv hc => hall i v c (by simpa using hv) hc, h5⟩, rfl, rfl⟩
  · obtain ⟨vs, ty, es, h1, h2, h3⟩ := hok
    split at h
    · rename_i hsz
      subst hsz
      split at h
      · rename_i hx
        cases h
        exact ⟨⟨vs, ty, es, h1, (phi_eval hb hx hp hd).trans h2, h3⟩, rfl, rfl⟩
      · split at h
        · rename_i hc
          simp only [Bool.and_eq_true] at hc
          cases h
          have e := E.same_eq hc.1
          subst e
          exact ⟨⟨vs, ty, es, h1, (E.eval_upto (cutEnv_old hb) hc.2) ▸ h2, h3⟩, rfl, rfl⟩
        · cases h
    · cases h
  · split at h
    · rename_i hc
      obtain ⟨rfl, rfl⟩ := hc
      exact ⟨hok, rfl, rfl⟩
    · cases h
  · obtain ⟨bs, h2, h3⟩ := hok
    split at h
    · rename_i hsz
      subst hsz
      split at h
      · rename_i hx
        cases h
        exact ⟨⟨bs, (phi_eval hb hx hp hd).trans h2, h3⟩, rfl, rfl⟩
      · split at h
        · rename_i hc
          simp only [Bool.and_eq_true] at hc
          cases h
          have e := E.same_eq hc.1
          subst e
          exact ⟨⟨bs, (E.eval_upto (cutEnv_old hb) hc.2) ▸ h2, h3⟩, rfl, rfl⟩
        · cases h
    · cases h
  · cases h

theorem matchMem_rd {base : Nat} {accF : List E} {ds : List D} (hb : base ≤ env.length) (hd : evalAll env accF = some ds) : ∀ {ts ss : List (Option SObj)} {acc acc' : List E} {k : Nat}, matchMem base ts ss acc = some acc' → acc' <+: accF →
    (∀ i s, ss[i]? = some (some s) → ObjOk w ρ env (k + i) s) → ss.length = ts.length ∧ ∀ i t, ts[i]? = some (some t) → ∃ s, ss[i]? = some (some s) ∧ ObjOk w ρ (cutEnv env base ds) (k + i) t ∧ objBlk ρ (k + i) t = objBlk ρ (k + i) s ∧ t.ro = s.ro
  | [], [], acc, acc', k, h, hp, hok => ⟨rfl, by simp⟩
  | none :: ts, s :: ss, acc, acc', k, h, hp, hok => by
    simp only [matchMem] at h
    obtain ⟨hl, hall⟩ := matchMem_rd (k := k + 1) hb hd h hp fun i s' hs => by
      have := hok (i + 1) s' (by simpa using hs)
      rwa [show k + (i + 1) = k + 1 + i from by omega] at this
    refine ⟨by simp [hl], fun i t ht => ?_⟩
    cases i with
    | zero => simp at ht
    | succ i =>
      obtain ⟨s', h1, h2⟩ := hall i t (by simpa using ht)
      rw [show k + (i + 1) = k + 1 + i from by omega]
      exact ⟨s', by simpa using h1, h2⟩
  | some t :: ts, some s :: ss, acc, acc', k, h, hp, hok => by
    simp only [matchMem, Option.bind_eq_some_iff] at h
    obtain ⟨acc1, h1, h2⟩ := h
    have h0 := matchObj_ok (w := w) (ρ := ρ) (o := k) hb hd h1 ((matchMem_pre h2).trans hp) (by simpa using hok 0 s rfl)
    obtain ⟨hl, hall⟩ := matchMem_rd (k := k + 1) hb hd h2 hp fun i s' hs => by
      have := hok (i + 1) s' (by simpa using hs)
      rwa [show k + (i + 1) = k + 1 + i from by omega] at this
    refine ⟨by simp [hl], fun i t' ht => ?_⟩
    cases i with
    | zero => simp at ht; subst ht; exact ⟨s, rfl, h0⟩
    | succ i =>
      obtain ⟨s', h3, h4⟩ := hall i t' (by simpa using ht)
      rw [show k + (i + 1) = k + 1 + i from by omega]
      exact ⟨s', by simpa using h3, h4⟩
  | some _ :: _, none :: _, _, _, _, h, _, _ | [], _ :: _, _, _, _, h, _, _ | some _ :: _, [], _, _, _, h, _, _ | none :: _, [], _, _, _, h, _, _ => by simp [matchMem] at h

theorem matchS_rep {base : Nat} {tm σ : SState} {args : List E} {ds : List D} (h : Rep w0 X w a σ env ρ) (hb : base ≤ env.length) (hm : matchS base tm σ = some args) (hd : evalAll env args = some ds) : Rep w0 X w a tm (cutEnv env base ds) ρ ∧ σ.tmps.length = tm.tmps.length ∧ σ.mem.length = tm.mem.length := by
  unfold matchS at hm
  split at hm
  · cases hm
  rename_i hlen
  simp only [Option.bind_eq_some_iff] at hm
  obtain ⟨acc, h1, acc2, h2, h2'⟩ := hm
  have hsz := h.size
  obtain ⟨hl1, hall1⟩ := matchSVs_rd (w := w) (ρ := ρ) (vs := a.tmps.toList) hb hd h1 ((matchMem_pre h2).trans (matchH_pre h2')) (by simpa using hsz) (fun i v c hv hc => by
    have := h.tmps i
    rw [show σ.tmp i = c by simp [SState.tmp, hc]] at this
    rwa [show a.tmps.getD i undef = v by simpa using congrArg (·.getD undef) hv] at this)
  have hmlen : σ.mem.length = tm.mem.length := by
    have go : ∀ {ts ss : List (Option SObj)} {acc acc' : List E}, matchMem base ts ss acc = some acc' → ss.length = ts.length := by
      intro ts
      induction ts with
      | nil => intro ss acc acc' h; cases ss with | nil => rfl | cons _ _ => simp [matchMem] at h
      | cons t ts ih =>
        intro ss acc acc' h
        cases ss with
        | nil => cases t <;> simp [matchMem] at h
        | cons s ss =>
          cases t with
          | none => simp only [matchMem] at h; simp [ih h]
          | some t =>
            cases s with
            | none => simp [matchMem] at h
            | some s =>
              simp only [matchMem, Option.bind_eq_some_iff] at h
              obtain ⟨_, _, h⟩ := h
              simp [ih h]
    exact go h2
  obtain ⟨hl2, hall2⟩ := matchMem_rd (w := w) (ρ := ρ) (k := 0) hb hd h2 (matchH_pre h2') (fun i s hs => by
    rw [Nat.zero_add]
    have hi := (List.getElem?_eq_some_iff.1 hs).1
    refine h.objs i s ?_
    unfold SState.obj
    rw [if_neg (by omega)]
    simp [hs])
  have hobj : ∀ o x, tm.obj o = some x → ∃ s, σ.obj o = some s ∧ ObjOk w ρ (cutEnv env base ds) o x ∧ objBlk ρ o x = objBlk ρ o s ∧ x.ro = s.ro := by
    intro o x hx
    unfold SState.obj at hx
    split at hx
    · rename_i ho
      subst ho
      rw [hx] at h2'
      unfold matchH at h2'
      split at h2'
      · rename_i e; cases e
      · rename_i t s e hs
        cases e
        have hso : σ.obj HID = some s := by unfold SState.obj; rw [if_pos rfl]; exact hs
        exact ⟨s, hso, matchObj_ok hb hd h2' ⟨[], by simp⟩ (h.objs HID s hso)⟩
      · cases h2'
    · rename_i ho
      have hx' : tm.mem[o]? = some (some x) := by
        simp only [List.getD_eq_getElem?_getD] at hx
        cases hto : tm.mem[o]? with
        | none => rw [hto] at hx; cases hx
        | some y => rw [hto] at hx; simp at hx; rw [hx]
      obtain ⟨s, h3, h4, h5⟩ := hall2 o x hx'
      rw [Nat.zero_add] at h4 h5
      refine ⟨s, ?_, h4, h5⟩
      unfold SState.obj
      rw [if_neg ho]
      simp [h3]
  refine ⟨⟨by omega, fun t => ?_, fun o x hx => (hobj o x hx).choose_spec.2.1, ?_, ?_, h.cells, h.os, h.tape, h.output, h.grown, h.old, h.sub, h.new, h.nod, h.hold⟩, hl1, hl2⟩
  · unfold SState.tmp
    rw [List.getD_eq_getElem?_getD]
    cases ht : tm.tmps[t]? with
    | none => exact .junk
    | some c =>
      have htl : t < a.tmps.size := by have := (List.getElem?_eq_some_iff.1 ht).1; omega
      refine hall1 t _ c ?_ ht
      simp only [Array.getElem?_toList]
      exact getD_of_lt htl
  · intro o o' x x' b h3 h4 h5 h6
    obtain ⟨s, hs, _, e, _⟩ := hobj o x h3
    obtain ⟨s', hs', _, e', _⟩ := hobj o' x' h4
    exact h.inj o o' s s' b hs hs' (e ▸ h5) (e' ▸ h6)
  · intro o x b h3 h4
    obtain ⟨s, hs, _, e, er⟩ := hobj o x h3
    rw [er]
    exact h.own o s b hs (e ▸ h4)

end
end Go.Am

/-
  The right to append gets another name: the one that the pattern of a meeting place has.
-/
namespace Go.Am

mutual
def SV.ren (k' k : Nat) : SV → SV
  | .own x o => if o = k' then .own x k else .own x o
  | .agg cs => .agg (SV.rens k' k cs)
  | .tup cs => .tup (SV.rens k' k cs)
  | .func fn cs => .func fn (SV.rens k' k cs)
  | .cond act sv => .cond act (sv.ren k' k)
  | .junk => .junk
  | .e x s => .e x s
  | .iptr x f => .iptr x f
  | .addr o f => .addr o f
  | .eaddr o x s f => .eaddr o x s f
  | .slc o => .slc o
def SV.rens (k' k : Nat) : List SV → List SV
  | [] => []
  | s :: r => s.ren k' k :: SV.rens k' k r
end

theorem SV.rens_get {k' k : Nat} : ∀ {cs : List SV} {i : Nat} {c : SV}, (SV.rens k' k cs)[i]? = some c → ∃ c', cs[i]? = some c' ∧ c = c'.ren k' k
  | [], i, c, h => by simp [SV.rens] at h
  | s :: r, 0, c, h => by simp [SV.rens] at h; exact ⟨s, rfl, h.symm⟩
  | s :: r, i + 1, c, h => by
    simp [SV.rens] at h
    obtain ⟨c', h1, h2⟩ := SV.rens_get h
    exact ⟨c', by simpa using h1, h2⟩

theorem SV.rens_length {k' k : Nat} : ∀ (cs : List SV), (SV.rens k' k cs).length = cs.length
  | [] => rfl
  | _ :: r => by simp [SV.rens, SV.rens_length r]

def Rho.retok (ρ : Rho) (k' k : Nat) : Rho := { ρ with val := fun x => if x = k then ρ.val k' else ρ.val x }

theorem SRd.ren {w : World} {ρ : Rho} {env : List D} {v : Value} {sv : SV} {k' k : Nat} (h : SRd w ρ env v sv) (ha : sv.avoids k = true) : SRd w (ρ.retok k' k) env v (sv.ren k' k) := by
  induction h with
  | junk => exact .junk
  | e hx h h1 => exact .e hx h h1
  | agg hl ho _ ih => exact .agg (by rw [SV.rens_length]; exact hl) ho fun i v c hv hc => by obtain ⟨c', h1, rfl⟩ := SV.rens_get hc; exact ih i v c' hv h1 (SV.avoidsAll_get (by simpa [SV.avoids] using ha) h1)
  | tup hl _ ih => exact .tup (by rw [SV.rens_length]; exact hl) fun i v c hv hc => by obtain ⟨c', h1, rfl⟩ := SV.rens_get hc; exact ih i v c' hv h1 (SV.avoidsAll_get (by simpa [SV.avoids] using ha) h1)
  | @addr o off =>
    have : (.pointer (some ⟨ρ.blk o, off, none⟩) : Value) = .pointer (some ⟨(ρ.retok k' k).blk o, off, none⟩) := rfl
    rw [this]; exact .addr
  | @eaddr o size off n x kd hx =>
    have : (.pointer (some ⟨ρ.blk o, n * size + off, none⟩) : Value) = .pointer (some ⟨(ρ.retok k' k).blk o, n * size + off, none⟩) := rfl
    rw [this]; exact .eaddr hx
  | iptr hx h => exact .iptr hx h
  | @own v x o es hx h hv =>
    have hne : o ≠ k := by simpa [SV.avoids] using ha
    simp only [SV.ren]
    split
    · rename_i e; subst e
      exact .own hx h (by simp [Rho.retok, hv])
    · exact .own hx h (by simp [Rho.retok, hne, hv])
  | @slc o =>
    have hne : o ≠ k := by simpa [SV.avoids] using ha
    have : ρ.val o = (ρ.retok k' k).val o := by simp [Rho.retok, hne]
    rw [this]; exact .slc
  | func hl _ ih => exact .func (by rw [SV.rens_length]; exact hl) fun i v c hv hc => by obtain ⟨c', h1, rfl⟩ := SV.rens_get hc; exact ih i v c' hv h1 (SV.avoidsAll_get (by simpa [SV.avoids] using ha) h1)
  | cond hd _ hn ih => exact .cond hd (fun hh => ih hh (by simpa [SV.avoids] using ha)) hn

def SObj.ren (k' k : Nat) : SObj → SObj
  | .box cs => .box (SV.rens k' k cs)
  | x => x

def SState.ren (k' k : Nat) (σ : SState) (x : SObj) : SState := { tmps := SV.rens k' k σ.tmps, mem := ((σ.mem.map fun x => x.map (SObj.ren k' k)).set k' none).set k (some x), hs := σ.hs.map (SObj.ren k' k) }

def SState.retok (σ : SState) (k' k : Nat) : SState :=
  if k' = k ∨ ¬ k < σ.mem.length ∨ k = HID ∨ k' = HID then σ else match (σ.down k).obj k' with
    | some (.tok e s) => (σ.down k).ren k' k (.tok e s)
    | _ => σ

section
variable {w w0 : World} {X : Ent} {a : Act} {σ : SState} {env : List D} {ρ : Rho}

theorem SState.ren_obj {k' k o : Nat} {x y : SObj} (hk : k < σ.mem.length) (hkH : k ≠ HID) (hkH' : k' ≠ HID) (h : (σ.ren k' k x).obj o = some y) : (o = k ∧ y = x) ∨ (o ≠ k ∧ o ≠ k' ∧ ∃ z, σ.obj o = some z ∧ y = z.ren k' k) := by
  simp only [SState.obj, SState.ren] at h ⊢
  by_cases hH : o = HID
  · subst hH
    simp only [if_true] at h
    obtain ⟨z, hz, rfl⟩ := Option.map_eq_some_iff.1 h
    exact .inr ⟨Ne.symm hkH, Ne.symm hkH', z, by simpa using hz, rfl⟩
  rw [if_neg hH] at h
  rw [if_neg hH]
  simp only [List.getD_eq_getElem?_getD, List.getElem?_set, List.length_set, List.getElem?_map, List.length_map] at h ⊢
  by_cases h1 : k = o
  · subst h1
    simp [hk] at h
    exact .inl ⟨rfl, h.symm⟩
  · rw [if_neg h1] at h
    by_cases h2 : k' = o
    · rw [if_pos h2] at h
      split at h <;> simp at h
    · rw [if_neg h2] at h
      refine .inr ⟨fun e => h1 e.symm, fun e => h2 e.symm, ?_⟩
      cases ho : σ.mem[o]? with
      | none => rw [ho] at h; simp at h
      | some z =>
        rw [ho] at h
        cases z with
        | none => simp at h
        | some z => simp at h; exact ⟨z, rfl, h.symm⟩

theorem SState.ren_tmp {k' k : Nat} {x : SObj} (t : Nat) : (σ.ren k' k x).tmp t = (σ.tmp t).ren k' k := by
  have go : ∀ (l : List SV) (t : Nat), (SV.rens k' k l).getD t .junk = (l.getD t .junk).ren k' k := by
    intro l
    induction l with
    | nil => intro t; simp [SV.rens, SV.ren]
    | cons s r ih =>
      intro t
      cases t with
      | zero => simp [SV.rens]
      | succ t => simpa [SV.rens] using ih t
  exact go σ.tmps t

theorem Rep.ren (h : Rep w0 X w a σ env ρ) {k' k : Nat} {e : TypeId} {s : Nat} (hne : k' ≠ k) (hk : k < σ.mem.length) (hkH : k ≠ HID) (hkH' : k' ≠ HID) (hav : σ.avoids k) (ho : σ.obj k' = some (.tok e s)) : Rep w0 X w a (σ.ren k' k (.tok e s)) env (ρ.retok k' k) := by
  have hblk : ∀ (o : Nat) (z : SObj), o ≠ k → objBlk (ρ.retok k' k) o (z.ren k' k) = objBlk ρ o z := by
    intro o z hok
    funext b
    cases z <;> simp [objBlk, Rho.retok, SObj.ren, hok]
  have hblkk : objBlk (ρ.retok k' k) k (.tok e s) = objBlk ρ k' (.tok e s) := by funext b; simp [objBlk, Rho.retok]
  refine ⟨by simpa [SState.ren, SV.rens_length] using h.size, fun t => by rw [SState.ren_tmp]; exact (h.tmps t).ren (hav.1 t), ?_, ?_, ?_, h.cells, h.os, h.tape, h.output, h.grown, h.old, h.sub, h.new, h.nod, h.hold⟩
  · intro o y hy
    rcases SState.ren_obj hk hkH hkH' hy with ⟨rfl, rfl⟩ | ⟨h1, h2, z, hz, rfl⟩
    · obtain ⟨n, xs, h3, h4⟩ := h.objs k' _ ho
      exact ⟨n, xs, by simpa [Rho.retok] using h3, by simpa [Rho.retok] using h4⟩
    · have hok := h.objs o z hz
      cases z with
      | box cs =>
        obtain ⟨vs, ty, h3, h4, h5, h6, h7⟩ := hok
        exact ⟨vs, ty, h3, by rw [SV.rens_length]; exact h4, h5, fun i v c hv hc => by obtain ⟨c', h8, rfl⟩ := SV.rens_get hc; exact (h6 i v c' hv h8).ren (SV.avoidsAll_get (by simpa [SObj.avoids] using hav.2 o _ hz) h8), h7⟩
      | row y sz =>
        obtain ⟨vs, ty, es, h3, h4, h5, h6, h7, h8, h9⟩ := hok
        exact ⟨vs, ty, es, h3, h4, h5, h6, h7, by simpa [Rho.retok, h1] using h8, h9⟩
      | tok e' sz =>
        obtain ⟨n, xs, h3, h4⟩ := hok
        exact ⟨n, xs, by simpa [Rho.retok, h1] using h3, by simpa [Rho.retok, h1] using h4⟩
      | store cf x => exact hok
  · intro o o' y y' b h1 h2 h3 h4
    rcases SState.ren_obj hk hkH hkH' h1 with ⟨rfl, rfl⟩ | ⟨e1, e2, z, hz, rfl⟩ <;> rcases SState.ren_obj hk hkH hkH' h2 with ⟨rfl, rfl⟩ | ⟨e3, e4, z', hz', rfl⟩
    · rfl
    · rw [hblkk] at h3
      rw [hblk o' z' e3] at h4
      exact absurd (h.inj k' o' _ z' b ho hz' h3 h4).symm e4
    · rw [hblkk] at h4
      rw [hblk o z e1] at h3
      exact absurd (h.inj o k' z _ b hz ho h3 h4) e2
    · rw [hblk o z e1] at h3
      rw [hblk o' z' e3] at h4
      exact h.inj o o' z z' b hz hz' h3 h4
  · intro o y b h1 h2
    rcases SState.ren_obj hk hkH hkH' h1 with ⟨rfl, rfl⟩ | ⟨e1, e2, z, hz, rfl⟩
    · rw [hblkk] at h2
      exact h.own k' _ b ho h2
    · rw [hblk o z e1] at h2
      (have := h.own o z b hz h2; cases z <;> simpa [SObj.ren, SObj.ro] using this)

theorem Rep.retok (h : Rep w0 X w a σ env ρ) (k' k : Nat) : ∃ ρ', Rep w0 X w a (σ.retok k' k) env ρ' := by
  unfold SState.retok
  split
  · exact ⟨ρ, h⟩
  · rename_i hc
    simp only [not_or, Decidable.not_not] at hc
    split
    · rename_i e s ho
      exact ⟨_, (h.down k).ren hc.1 (by rw [(σ.down_len k).2]; exact hc.2.1) hc.2.2.1 hc.2.2.2 (σ.down_avoids k) ho⟩
    · exact ⟨ρ, h⟩

theorem SState.retok_len (σ : SState) (k' k : Nat) : (σ.retok k' k).tmps.length = σ.tmps.length ∧ (σ.retok k' k).mem.length = σ.mem.length := by
  unfold SState.retok
  split
  · exact ⟨rfl, rfl⟩
  · split
    · simp [SState.ren, SV.rens_length, (σ.down_len k).1, (σ.down_len k).2]
    · exact ⟨rfl, rfl⟩

end
end Go.Am

/-
  From the model's code to the small language.
-/
namespace Go.Am

/-! ## forgetting an object -/

def SV.purge (d : Nat) (sv : SV) : SV := if sv.avoids d then sv else .junk

def SObj.purge (d : Nat) : SObj → SObj
  | .box cs => .box (cs.map (SV.purge d))
  | x => x

def SState.purge (d : Nat) (σ : SState) : SState := if d = HID then σ else { tmps := σ.tmps.map (SV.purge d), mem := (σ.mem.map fun x => x.map (SObj.purge d)).set d none, hs := σ.hs.map (SObj.purge d) }

def sites (ops : Array Oper) : List Nat := ops.toList.filterMap fun o => if isNew o then o.dst else none

def purgeAll (ds : List Nat) (σ : SState) : SState := ds.foldl (fun σ d => σ.purge d) σ

def opsOk (σ : SState) (ops : Array Oper) : Bool := ops.all fun o => match o.dst with | some d => decide (d < σ.tmps.length) | none => true

def dregion (P : Program) (ops : Array Oper) (σ : SState) (u : Nat) : Option (SState × List Bind) :=
  match drun P ops ops.toList σ u with
  | some x => if orderOk ops x.2.2 σ = true ∧ P.follows .mixedOrders = true then (extras P ops x.2.2 σ).map fun xs => (x.1, x.2.1 ++ xs.map .ev) else none
  | none => none

def panLast (P : Program) (ops : Array Oper) (σ : SState) (u : Nat) : Bool :=
  match ops[ops.size - 1]?, σ.hs with
  | some o, some (.store cf _) => (match o.guard, o.op with
    | none, .call c => (match c.callee with
      | .value f => (match σ.opd f with
        | .func (.func f) [] => cf.pan.contains f && lastOk ops && (dregion P ops.pop σ u).isSome
        | _ => false)
      | _ => false)
    | _, _ => false)
  | _, _ => false

def dregionN (P : Program) (ops : Array Oper) (σ : SState) (u : Nat) : Option (SState × List Bind) := if panLast P ops σ u = true then none else dregion P ops σ u

theorem dregionN_some {P : Program} {ops : Array Oper} {σ : SState} {u : Nat} {x : SState × List Bind} (h : dregionN P ops σ u = some x) : dregion P ops σ u = some x := by
  unfold dregionN at h
  split at h
  · cases h
  · exact h

def regionT (P : Program) (ops : Array Oper) (draw : Bool) (σ : SState) (u : Nat) (k : SKont) : Option T :=
  let σ1 := purgeAll (sites ops) σ
  if !opsOk σ1 ops then none else
  if draw then
    match dregionN P ops σ1 u with
    | some x => (k x.1 (u + x.2.length)).map (wrapBinds x.2)
    | none => if 0 < ops.size ∧ lastOk ops = true then match ops[ops.size - 1]?, dregion P ops.pop σ1 u with
        | some o, some x => (match sopOf P o x.1 with
          | some s => if dstOk x.1 o then (sopT s o x.1 (u + x.2.length) k).map (wrapBinds x.2) else none
          | none => none)
        | _, _ => none
      else none
  else segs P ops ops.toList σ1 u k

def regionC (P : Program) (ops : Array Oper) (draw : Bool) (σ : SState) (u : Nat) : Option (Option (Nat × SState)) :=
  let σ1 := purgeAll (sites ops) σ
  if draw then
    match dregionN P ops σ1 u with
    | some x => some (some (u + x.2.length, x.1))
    | none => match ops[ops.size - 1]?, dregion P ops.pop σ1 u with
      | some o, some x => segsC P ops [o] x.1 (u + x.2.length)
      | _, _ => none
  else segsC P ops ops.toList σ1 u

/-! ## tokens get the pattern's names -/

def tokPairs : List SV → List SV → List (Nat × Nat)
  | .own _ k :: ts, .own _ k' :: ss => (k', k) :: tokPairs ts ss
  | _ :: ts, _ :: ss => tokPairs ts ss
  | _, _ => []

def retoks (ps : List (Nat × Nat)) (σ : SState) : SState := ps.foldl (fun σ p => σ.retok p.1 p.2) σ

def undead (σ : SState) : SV → SV
  | .own x k => match σ.obj k with | some (.tok _ _) => .own x k | _ => .e x true
  | sv => sv

def SState.undead (σ : SState) : SState := { σ with tmps := σ.tmps.map (Go.Am.undead σ) }

def matchR (base : Nat) (tm σ : SState) : Option (List E) := matchS base tm (retoks (tokPairs tm.tmps σ.undead.tmps) σ.undead)

/-! ## patterns for the places where ways meet (nothing hangs on how they are found: 'matchS' looks) -/

def isScal : SV → Bool
  | .e _ true => true
  | .own _ _ => true
  | _ => false

def ownOf : SV → Option Nat
  | .own _ k => some k
  | _ => none

def mergeSV (base n : Nat) (svs : List SV) : SV × Nat :=
  match svs with
  | [] => (.junk, n)
  | .cond _ _ :: _ => (.junk, n)
  | s :: r =>
    if s.same .junk then (.junk, n)
    else if r.all (s.same ·) && s.upto base then (s, n)
    else match ownOf s with
      | some k => if r.all (fun x => (ownOf x).isSome) then (.own (.sym (base + n)) k, n + 1) else if r.all (fun x => x.toE.isSome) then (.e (.sym (base + n)) (r.all isScal), n + 1) else (.junk, n)
      | none => if (s :: r).all (fun x => x.toE.isSome) then (.e (.sym (base + n)) ((s :: r).all isScal), n + 1) else (.junk, n)

def mergeSVs (base : Nat) : List SV → List (List SV) → Nat → List SV × Nat
  | [], _, n => ([], n)
  | s :: r, others, n =>
    let (m, n1) := mergeSV base n (s :: others.filterMap List.head?)
    let (ms, n2) := mergeSVs base r (others.map List.tail) n1
    (m :: ms, n2)

def boxesOf : List (Option SObj) → Option (List (List SV))
  | [] => some []
  | some (.box cs) :: r => (boxesOf r).map (cs :: ·)
  | _ => none

def rowsOf (sz : Nat) : List (Option SObj) → Option (List E)
  | [] => some []
  | some (.row x sz') :: r => if sz = sz' then (rowsOf sz r).map (x :: ·) else none
  | _ => none

def toksOf (e sz : Nat) : List (Option SObj) → Bool
  | [] => true
  | some (.tok e' sz') :: r => decide (e = e') && decide (sz = sz') && toksOf e sz r
  | _ => false

def mergeMem (base : Nat) : List (Option SObj) → List (List (Option SObj)) → Nat → List (Option SObj) × Nat
  | [], _, n => ([], n)
  | x :: r, others, n =>
    let hs := others.filterMap List.head?
    let (m, n1) : Option SObj × Nat := match x with
      | some (.box cs) => (match boxesOf hs with
        | some css => let (ms, n1) := mergeSVs base cs css n; (some (.box ms), n1)
        | none => (none, n))
      | some (.row y sz) => (match rowsOf sz hs with
        | some ys => if ys.all (y.same ·) && y.upto base then (some (.row y sz), n) else (some (.row (.sym (base + n)) sz), n + 1)
        | none => (none, n))
      | some (.tok e sz) => if toksOf e sz hs then (some (.tok e sz), n) else (none, n)
      | _ => (none, n)
    let (ms, n2) := mergeMem base r (others.map List.tail) n1
    (m :: ms, n2)

def storesOf (cf : StCfg) : List (Option SObj) → Option (List E)
  | [] => some []
  | some (.store cf' x) :: r => if cf = cf' then (storesOf cf r).map (x :: ·) else none
  | _ => none

def mergeH (base : Nat) (x : Option SObj) (others : List (Option SObj)) (n : Nat) : Option SObj × Nat :=
  match x with
  | some (.store cf y) => (match storesOf cf others with
    | some ys => if ys.all (y.same ·) && y.upto base then (some (.store cf y), n) else (some (.store cf (.sym (base + n))), n + 1)
    | none => (none, n))
  | _ => (none, n)

def alignTo (σ0 σ : SState) : SState := retoks (tokPairs σ0.tmps σ.undead.tmps) σ.undead

def mergeS (base : Nat) (σs : List SState) : SState × Nat :=
  match (match σs with | [] => [] | σ :: r => σ.undead :: r.map (alignTo σ.undead)) with
  | [] => ({ tmps := [], mem := [], hs := none }, 0)
  | σ :: r =>
    let (ts, n) := mergeSVs base σ.tmps (r.map (·.tmps)) 0
    let (ms, n) := mergeMem base σ.mem (r.map (·.mem)) n
    let (hs, n) := mergeH base σ.hs (r.map (·.hs)) n
    ({ tmps := ts, mem := ms, hs := hs }, n)

def completes : Code → Bool
  | .exit _ | .ret | .goto _ | .refuse _ | .loop _ => false
  | .seq a b => completes a && completes b
  | .cond _ a b => completes a || completes b
  | _ => true

structure Outs where
  normal : Option (Nat × SState)
  exits : List (Nat × SState)

def fixTm (body : Nat → SState → Option Outs) (u : Nat) (σ0 : SState) : Nat → SState × Nat → Option (SState × Nat)
  | 0, tm => some tm
  | k + 1, tm => match body (u + tm.2) tm.1 with
    | none => none
    | some o =>
      let tm' := mergeS u (σ0 :: (match o.normal with | some x => [x.2] | none => []))
      if tm'.2 = tm.2 then some tm' else fixTm body u σ0 k tm'

def collect (P : Program) : Code → Nat → SState → Option Outs
  | .skip, u, σ | .label _, u, σ => some ⟨some (u, σ), []⟩
  | .region id ops draw, u, σ => (regionC P ops draw (frzAt id σ) u).bind fun x => match x with
    | none => some ⟨none, []⟩
    | some (u, σ) => forceS σ fun σ => some ⟨some (u, σ), []⟩
  | .seq a b, u, σ => (collect P a u σ).bind fun r1 => match r1.normal with
    | none => some r1
    | some (u1, σ1) => (collect P b u1 σ1).map fun r2 => ⟨r2.normal, r1.exits ++ r2.exits⟩
  | .cond _ a b, u, σ => (collect P a u σ).bind fun ra => (collect P b u σ).map fun rb => match ra.normal, rb.normal with
    | some x, some y => let (tm, n) := mergeS u [x.2, y.2]; ⟨some (u + n, tm), ra.exits ++ rb.exits⟩
    | some x, none => ⟨some x, ra.exits ++ rb.exits⟩
    | none, y => ⟨y, ra.exits ++ rb.exits⟩
  | .block id body, u, σ => (collect P body u σ).map fun r =>
    let outs := (match r.normal with | some x => [x.2] | none => []) ++ (r.exits.filter (·.1 == id)).map (·.2)
    let rest := r.exits.filter (·.1 != id)
    match outs with
    | [] => ⟨none, rest⟩
    | outs => let (tm, n) := mergeS u outs; ⟨some (u + n, tm), rest⟩
  | .loop body, u, σ => (fixTm (fun u σ => collect P body u σ) u σ 8 (σ, 0)).bind fun (tm, n) => (collect P body (u + n) tm).map fun r => ⟨none, r.exits⟩
  | .exit id, _, σ => some ⟨none, [(id, σ)]⟩
  | .ret, _, _ => some ⟨none, []⟩
  | .rangeFunc _ _ _ _, u, σ => some ⟨some (u + 1, setH σ (.sym u)), []⟩
  | _, _, _ => none

structure Ex where
  lab : Nat
  tm : SState
  base : Nat

abbrev Kont := Nat → Nat → SState → Option T

def exOf : List (Nat × Ex) → Nat → Option Ex
  | [], _ => none
  | (i, e) :: r, id => if i = id then some e else exOf r id

def Outs.normals (r : Outs) : List SState := match r.normal with | some x => [x.2] | none => []
def Outs.at (r : Outs) (id : Nat) : List SState := r.normals ++ (r.exits.filter (·.1 == id)).map (·.2)

def jumpTo (dp u : Nat) (tm : SState) : Kont := fun _ _ σ' => (matchR u tm σ').map (T.jump dp)

def joinAt (dp u : Nat) (m : SState × Nat) (body : Option T) (k : Kont) : Option T :=
  match body, k dp (u + m.2) m.1 with
  | some tb, some tr => some (.join dp m.2 tb tr)
  | _, _ => none

def iteOf (x : E) (a b : Option T) : Option T :=
  match a, b with
  | some ta, some tb => some (.ite x ta tb)
  | _, _ => none

def loopAt (dp u : Nat) (m : SState × Nat) (σ : SState) (body : Option T) : Option T :=
  match matchR u m.1 σ, body with
  | some inits, some tb => if inits.length = m.2 then some (.loop dp inits tb) else none
  | _, _ => none

def dataSlots : Nat → List SV → List (Nat × E)
  | _, [] => []
  | i, .e x _ :: r => (i, x) :: dataSlots (i + 1) r
  | i, _ :: r => dataSlots (i + 1) r

def SV.data : SV → SV
  | .e x s => .e x s
  | _ => .junk

def putArgs : Nat → List Tmp → List SV → List SV
  | _, [], σs => σs
  | u, p :: ps, σs => putArgs (u + 1) ps (σs.set p (.e (.sym u) false))

def roundState (σ : SState) (cf : StCfg) (u : Nat) (ps : List Tmp) : SState :=
  { tmps := putArgs (u + 1) ps (σ.tmps.map SV.data), mem := List.replicate σ.mem.length none, hs := some (.store cf (.sym u)) }

def roundEnd (dp : Nat) : Kont := fun _ _ σ => match σ.hs with | some (.store _ h) => some (.jump dp [h]) | _ => none

def noRange : Code → Bool
  | .seq a b | .cond _ a b => noRange a && noRange b
  | .block _ b | .loop b => noRange b
  | .rangeFunc _ _ _ _ => false
  | _ => true

def compile (P : Program) (rv : SState → Option E) : Code → Nat → Nat → SState → List (Nat × Ex) → Kont → Option T
  | .skip, dp, u, σ, _, k | .label _, dp, u, σ, _, k => k dp u σ
  | .region id ops draw, dp, u, σ, _, k => regionT P ops draw (frzAt id σ) u fun σ u => forceS σ fun σ => k dp u σ
  | .seq a b, dp, u, σ, ex, k => compile P rv a dp u σ ex fun dp u σ => compile P rv b dp u σ ex k
  | .cond c a b, dp, u, σ, ex, k => (σ.opd c).toE.bind fun x =>
      if completes a && completes b then
        (collect P a u σ).bind fun ra => (collect P b u σ).bind fun rb =>
          joinAt dp u (mergeS u (ra.normals ++ rb.normals))
            (iteOf x (compile P rv a (dp + 1) u σ ex (jumpTo dp u (mergeS u (ra.normals ++ rb.normals)).1)) (compile P rv b (dp + 1) u σ ex (jumpTo dp u (mergeS u (ra.normals ++ rb.normals)).1))) k
      else iteOf x (compile P rv a dp u σ ex k) (compile P rv b dp u σ ex k)
  | .block id body, dp, u, σ, ex, k => (collect P body u σ).bind fun r =>
      if (r.at id).isEmpty then compile P rv body dp u σ (ex.filter (·.1 != id)) (fun _ _ _ => none)
      else joinAt dp u (mergeS u (r.at id)) (compile P rv body (dp + 1) u σ ((id, ⟨dp, (mergeS u (r.at id)).1, u⟩) :: ex) (jumpTo dp u (mergeS u (r.at id)).1)) k
  | .loop body, dp, u, σ, ex, _ => (fixTm (fun u σ => collect P body u σ) u σ 8 (σ, 0)).bind fun m =>
      loopAt dp u m σ (compile P rv body (dp + 1) (u + m.2) m.1 ex (jumpTo dp u m.1))
  | .exit id, _, _, σ, ex, _ => (exOf ex id).bind fun e => (matchR e.base e.tm σ).map (T.jump e.lab)
  | .ret, _, _, σ, _, _ => (rv σ).map T.ret
  | .rangeFunc g ps asg body, dp, u, σ, _, k => match (σ.opd g).toE, σ.hs with
    | some x, some (.store cf h) => if cf.ro = true then none else
      match compile P (fun _ => none) asg (dp + 1) (u + 1 + ps.size) (roundState σ cf u ps.toList) [] (fun dp' u' σ' => compile P (fun _ => none) body dp' u' σ' [] (roundEnd dp)), k dp (u + 1) (setH σ (.sym u)) with
      | some tb, some tr => some (.rfor x h ((dataSlots 0 σ.tmps).map (·.1)) ((dataSlots 0 σ.tmps).map (·.2)) ps.size dp tb tr)
      | _, _ => none
    | _, _ => none
  | _, _, _, _, _, _ => none

end Go.Am

/-
  A loop over a function: what a round does, and where a run goes on from.
-/
namespace Go.Am

section
variable {P : Program}

theorem cell_putObj {w : World} {l : Nat} {r : Loop} (h : w.heap[l]? = some (.loop r)) (r' : Loop) (b o : Nat) : (w.putObj l (.loop r')).cell? ⟨b, o, none⟩ = w.cell? ⟨b, o, none⟩ := by
  by_cases e : b = l
  · subst e
    have h1 : w.cell? ⟨b, o, none⟩ = none := by simp [World.cell?, h]
    have h2 := World.putObj_heap_same (o := .loop r') (Array.getElem?_eq_some_iff.1 h).1
    rw [h1]
    simp [World.cell?, h2]
  · exact World.cell?_of_block (a := ⟨b, o, none⟩) (World.putObj_heap_other e)

theorem Keeps.putObj {w : World} {S : Sets} {l : Nat} {r : Loop} (h : w.heap[l]? = some (.loop r)) (r' : Loop) : Keeps S w (w.putObj l (.loop r')) := fun b o _ => cell_putObj h r' b o

def PartOf (d x : D) : Prop := (∃ (e : TypeId) (sz : Nat) (cs : List D) (j : Nat), x = .blk e sz cs ∧ cs[j]? = some d) ∨ (∃ (kvs : List D) (j : Nat) (d1 d2 : D), x = .mblk kvs ∧ kvs[j]? = some (D.tup [d1, d2]) ∧ (d = d1 ∨ d = d2))

theorem StOk.to {w w' : World} {S S' : Sets} {foot : Nat → Prop} {bs : List D} (h : StOk w S foot bs) (hS : S.Like S') (hm : ∀ b o, S' b o → S b o) (hb : ∀ b, foot b → w'.heap[b]? = w.heap[b]?)
    (hr : ∀ (v : Value) (d : D) (i : Nat) (x : D), bs[i]? = some x → PartOf d x → RdD w S v d → RdD w' S' v d) : StOk w' S' foot bs := by
  refine ⟨hS.n.symm.trans h.n, fun i e sz cs hi => ?_, fun b off hf hs => h.nos b off hf (hm _ _ hs), fun i kvs hi => ?_, fun i j x y hi hj hx hy e => h.inj i j x y hi hj hx hy (by rw [← hS.loc, ← hS.loc]; exact e)⟩
  · obtain ⟨hf, vs, g1, g2, g3, g4, g5, g6⟩ := h.cells i e sz cs hi
    rw [hS.loc, hS.cap]
    exact ⟨hf, vs, (hb _ hf).trans g1, g2, g3, g4, fun j v d hv hd => hr v d i _ hi (.inl ⟨e, sz, cs, j, rfl, hd⟩) (g5 j v d hv hd), fun off hs => g6 off (hm _ _ hs)⟩
  · obtain ⟨hf, es, clock, g1, g2, g3, g4⟩ := h.maps i kvs hi
    rw [hS.loc]
    refine ⟨hf, es, clock, (hb _ hf).trans g1, g2, fun off hs => g3 off (hm _ _ hs), fun j e kv he hkv => ?_⟩
    obtain ⟨dk, dv, rfl, g6, g7⟩ := g4 j e kv he hkv
    exact ⟨dk, dv, rfl, hr _ _ i _ hi (.inr ⟨kvs, j, dk, dv, rfl, hkv, .inl rfl⟩) g6, hr _ _ i _ hi (.inr ⟨kvs, j, dk, dv, rfl, hkv, .inr rfl⟩) g7⟩

theorem noyl_part {bs : List D} (h : noyls bs = true) {d : D} {i : Nat} {x : D} (hi : bs[i]? = some x) (hp : PartOf d x) : d.noyl = true := by
  have hx := noyls_get h hi
  rcases hp with ⟨e, sz, cs, j, rfl, hj⟩ | ⟨kvs, j, d1, d2, rfl, hj, hd⟩
  · exact noyls_get (by simpa [D.noyl] using hx) hj
  · have := noyls_get (by simpa [D.noyl] using hx) hj
    simp [D.noyl, noyls] at this
    rcases hd with rfl | rfl
    · exact this.1
    · exact this.2

def Sets.under (S : Sets) (h : Nat → Option Loop) : Sets := { S with hold := h }

theorem Sets.like_under (S : Sets) (h : Nat → Option Loop) : S.Like (S.under h) := ⟨fun _ _ h => h, rfl, fun _ => rfl, fun _ => rfl⟩

theorem dataSlots_get : ∀ {l : List SV} {k i s : Nat} {x : E}, (dataSlots k l)[i]? = some (s, x) → k ≤ s ∧ ∃ b, l[s - k]? = some (.e x b)
  | [], _, _, _, _, h => by simp [dataSlots] at h
  | sv :: r, k, i, s, x, h => by
    have rest : ∀ {i : Nat}, (dataSlots (k + 1) r)[i]? = some (s, x) → k ≤ s ∧ ∃ b, (sv :: r)[s - k]? = some (.e x b) := by
      intro i h
      obtain ⟨h1, b, h2⟩ := dataSlots_get h
      refine ⟨by omega, b, ?_⟩
      rw [show s - k = (s - (k + 1)) + 1 from by omega]
      simpa using h2
    cases sv with
    | e y b =>
      simp only [dataSlots] at h
      cases i with
      | zero => simp at h; obtain ⟨rfl, rfl⟩ := h; exact ⟨Nat.le_refl _, b, by simp⟩
      | succ i => exact rest (by simpa using h)
    | _ =>
      simp only [dataSlots] at h
      exact rest h

theorem dataSlots_mem : ∀ {l : List SV} {k s : Nat} {x : E} {b : Bool}, l[s]? = some (.e x b) → ∃ i : Nat, (dataSlots k l)[i]? = some (k + s, x)
  | [], _, _, _, _, h => by simp at h
  | sv :: r, k, 0, x, b, h => by
    simp at h
    subst h
    exact ⟨0, by simp [dataSlots]⟩
  | sv :: r, k, s + 1, x, b, h => by
    obtain ⟨i, hi⟩ := dataSlots_mem (k := k + 1) (l := r) (s := s) (by simpa using h)
    rw [show k + 1 + s = k + (s + 1) from by omega] at hi
    cases sv with
    | e y c => exact ⟨i + 1, by simpa [dataSlots] using hi⟩
    | _ => exact ⟨i, by simpa [dataSlots] using hi⟩

structure Ext (w0 : World) (X : Ent) (w1 : World) (X1 : Ent) : Prop where
  sub : X.S ≤ X1.S
  os : w1.os = w0.os
  tape : w1.tape = w0.tape
  output : w1.output = w0.output
  size : w0.heap.size ≤ w1.heap.size
  old : ∀ b, b < w0.heap.size → ¬ X.may b → w1.heap[b]? = w0.heap[b]?
  may : ∀ b, X1.may b → X.may b ∨ w0.heap.size ≤ b
  foot : ∀ b, X1.foot b → X.foot b ∨ X.may b ∨ w0.heap.size ≤ b
  new : ∀ b o, X1.S b o → X.S b o ∨ w0.heap.size ≤ b ∨ X.may b
  dfs : ∃ cs : List Nat, X1.dfs = (cs.map fun D => ({ target := .collected D, args := #[] } : Deferred)) ++ X.dfs ∧ cs.Nodup ∧ ∀ D, D ∈ cs → w1.heap[D]? = some (.deferred (some [])) ∧ ¬ X1.may D ∧ ¬ X1.foot D ∧ w0.heap.size ≤ D

theorem Ext.refl (w0 : World) (X : Ent) : Ext w0 X w0 X := ⟨Sets.le_refl _, rfl, rfl, rfl, Nat.le_refl _, fun _ _ _ => rfl, fun _ h => .inl h, fun _ h => .inl h, fun _ _ h => .inl h, [], rfl, List.nodup_nil, by simp⟩

theorem Ext.trans {w0 w1 w2 : World} {X X1 X2 : Ent} (h : Ext w0 X w1 X1) (k : Ext w1 X1 w2 X2) : Ext w0 X w2 X2 := by
  have hm : ∀ b, b < w0.heap.size → ¬ X.may b → ¬ X1.may b := fun b hb hn hx => (h.may b hx).elim hn fun g => by omega
  refine ⟨Sets.le_trans h.sub k.sub, k.os.trans h.os, k.tape.trans h.tape, k.output.trans h.output, Nat.le_trans h.size k.size, fun b hb hn => (k.old b (Nat.lt_of_lt_of_le hb h.size) (hm b hb hn)).trans (h.old b hb hn),
    fun b hb => (k.may b hb).elim (h.may b) fun g => .inr (Nat.le_trans h.size g), fun b hb => ?_, fun b o hs => ?_, ?_⟩
  · rcases k.foot b hb with g | g | g
    · exact h.foot b g
    · exact .inr (h.may b g)
    · exact .inr (.inr (Nat.le_trans h.size g))
  · rcases k.new b o hs with g | g | g
    · exact h.new b o g
    · exact .inr (.inl (Nat.le_trans h.size g))
    · exact .inr ((h.may b g).elim .inr .inl)
  · obtain ⟨cs, h1, h2, h3⟩ := h.dfs
    obtain ⟨ds, k1, k2, k3⟩ := k.dfs
    refine ⟨ds ++ cs, by rw [k1, h1]; simp, ?_, fun D hD => ?_⟩
    · rw [List.nodup_append]
      refine ⟨k2, h2, fun a ha b hb e => ?_⟩
      subst e
      have g1 := (k3 a ha).2.2.2
      have g2 := (Array.getElem?_eq_some_iff.1 (h3 a hb).1).1
      omega
    · rcases List.mem_append.1 hD with hD | hD
      · obtain ⟨g1, g2, g3, g4⟩ := k3 D hD
        exact ⟨g1, g2, g3, Nat.le_trans h.size g4⟩
      · obtain ⟨g1, g2, g3, g4⟩ := h3 D hD
        have hlt := (Array.getElem?_eq_some_iff.1 g1).1
        exact ⟨(k.old D hlt g2).trans g1, fun hx => (k.may D hx).elim g2 fun g => by omega, fun hx => (k.foot D hx).elim g3 fun g => g.elim g2 fun g => by omega, g4⟩

theorem Ext.rep {w0 w1 w : World} {X X1 : Ent} {a : Act} {σ : SState} {env : List D} {ρ : Rho} (h : Ext w0 X w1 X1) (hr : Rep w1 X1 w a σ env ρ) (hh : ∀ l rec, X.S.hold l = some rec → w0.heap[l]? = some (.loop rec) ∧ ¬ X.may l ∧ ¬ X.foot l) : Rep w0 { X with dfs := X1.dfs } w a σ env ρ := by
  have hm : ∀ b, b < w0.heap.size → ¬ X.may b → ¬ X1.may b := fun b hb hn hx => (h.may b hx).elim hn fun g => by omega
  refine ⟨hr.size, hr.tmps, hr.objs, hr.inj, fun o x b hx hb => ?_, hr.cells, hr.os.trans h.os, hr.tape.trans h.tape, hr.output.trans h.output, Nat.le_trans h.size hr.grown, fun b hb hn => (hr.old b (Nat.lt_of_lt_of_le hb h.size) (hm b hb hn)).trans (h.old b hb hn), Sets.le_trans h.sub hr.sub, fun b o hs => ?_, hr.nod, hh⟩
  · obtain ⟨g, hlt⟩ := hr.own o x b hx hb
    refine ⟨?_, hlt⟩
    rcases g with g | g | g
    · rcases h.foot b g.2 with k | k | k
      · exact .inl ⟨g.1, k⟩
      · exact .inr (.inr k)
      · exact .inr (.inl k)
    · exact .inr (.inl (Nat.le_trans h.size g))
    · rcases h.may b g with k | k
      · exact .inr (.inr k)
      · exact .inr (.inl k)
  · rcases hr.new b o hs with g | g | g
    · exact h.new b o g
    · exact .inr (.inl (Nat.le_trans h.size g))
    · exact .inr ((h.may b g).elim .inr .inl)

theorem left_of_rep {w w' : World} {a : Act} {σ : SState} {env : List D} {ρ : Rho} {S : Sets} {foot may : Nat → Prop} {dfs : List Deferred} {bs : List D} (h : Rep w ⟨may, S, foot, dfs⟩ w' a σ env ρ) (hst : StOk w' ρ.S ρ.foot bs) (hob : ∃ cf x, σ.obj HID = some (.store cf x)) (hmay2 : ∀ b, may b → foot b) : Left w S foot may w' ρ.S ρ.foot bs := by
  obtain ⟨cf, x, hob⟩ := hob
  refine ⟨hst, h.sub, h.os, h.tape, h.output, h.grown, h.old, fun b hb => ?_, fun b o hs => ?_, h.cells⟩
  · obtain ⟨g1, g2⟩ := h.own HID _ b hob hb
    refine ⟨?_, g2⟩
    rcases g1 with g1 | g1 | g1
    · exact .inl g1.2
    · exact .inr g1
    · exact .inl (hmay2 b g1)
  · rcases h.new b o hs with g | g | g
    · exact .inl g
    · exact .inr (.inr g)
    · exact .inr (.inl g)

theorem evalAll_get {env : List D} : ∀ {l : List E} {ds : List D} {i : Nat} {x : E}, evalAll env l = some ds → l[i]? = some x → ∃ d, ds[i]? = some d ∧ x.eval env = some d
  | [], _, _, _, _, h => by simp at h
  | y :: r, ds, i, x, h, hi => by
    simp only [evalAll, Option.bind_eq_some_iff, Option.map_eq_some_iff] at h
    obtain ⟨d, h1, ds', h2, rfl⟩ := h
    cases i with
    | zero => simp at hi; subst hi; exact ⟨d, rfl, h1⟩
    | succ i =>
      obtain ⟨d', g1, g2⟩ := evalAll_get (i := i) h2 (by simpa using hi)
      exact ⟨d', by simpa using g1, g2⟩

theorem putArgs_rd {w : World} {ρ : Rho} {env : List D} : ∀ {ps : List Tmp} {vs : List Value} {u : Nat} {tm : Array Value} {svs : List SV}, tm.size = svs.length → ps.length = vs.length → (∀ t, SRd w ρ env (tm.getD t undef) (svs.getD t .junk)) → (∀ (i : Nat) (v : Value), vs[i]? = some v → ∃ d, env[u + i]? = some d ∧ RdD w ρ.S v d) →
    ((ps.zip vs).foldl (fun tmps (x : Tmp × Value) => tmps.setIfInBounds x.1 x.2) tm).size = (putArgs u ps svs).length ∧ ∀ t, SRd w ρ env (((ps.zip vs).foldl (fun tmps (x : Tmp × Value) => tmps.setIfInBounds x.1 x.2) tm).getD t undef) ((putArgs u ps svs).getD t .junk)
  | [], [], u, tm, svs, hs, _, h, _ => ⟨hs, h⟩
  | [], _ :: _, _, _, _, _, hl, _, _ => by simp at hl
  | _ :: _, [], _, _, _, _, hl, _, _ => by simp at hl
  | p :: ps, v :: vs, u, tm, svs, hs, hl, h, hv => by
    simp only [List.zip_cons_cons, List.foldl_cons, putArgs]
    refine putArgs_rd (by simp [hs]) (by simpa using hl) (fun t => ?_) fun i v' hi => ?_
    · by_cases hp : p < svs.length
      · simp only [Array.getD_eq_getD_getElem?, Array.getElem?_setIfInBounds, List.getD_eq_getElem?_getD, List.getElem?_set]
        by_cases e : p = t
        · subst e
          obtain ⟨d, hd, hr⟩ := hv 0 v rfl
          simp only [if_true, hs, hp]
          exact .e (by simpa [E.eval] using hd) hr (fun hh => by cases hh)
        · simp only [e, if_false]
          have := h t
          simpa only [Array.getD_eq_getD_getElem?, List.getD_eq_getElem?_getD] using this
      · have hge : svs.length ≤ p := Nat.le_of_not_lt hp
        rw [Array.setIfInBounds_eq_of_size_le (by rw [hs]; exact hge), List.set_eq_of_length_le hge]
        exact h t
    · obtain ⟨d, h1, h2⟩ := hv (i + 1) v' (by simpa using hi)
      exact ⟨d, by rw [show u + 1 + i = u + (i + 1) from by omega]; exact h1, h2⟩

theorem putArgs_length : ∀ (ps : List Tmp) (u : Nat) (svs : List SV), (putArgs u ps svs).length = svs.length
  | [], _, _ => rfl
  | p :: ps, u, svs => by simp [putArgs, putArgs_length ps]

/-! ## a function leaves that has had loops over functions -/

structure Marked (w w' : World) (cs : List Nat) : Prop where
  other : ∀ b, b ∉ cs → w'.heap[b]? = w.heap[b]?
  size : w'.heap.size = w.heap.size
  os : w'.os = w.os
  tape : w'.tape = w.tape
  output : w'.output = w.output
  cell : ∀ b o, w'.cell? ⟨b, o, none⟩ = w.cell? ⟨b, o, none⟩

theorem cell_unmark {w : World} {l : Nat} {x : Option (List Deferred)} (h : w.heap[l]? = some (.deferred x)) (y : Option (List Deferred)) (b o : Nat) : (w.putObj l (.deferred y)).cell? ⟨b, o, none⟩ = w.cell? ⟨b, o, none⟩ := by
  by_cases e : b = l
  · subst e
    have h1 : w.cell? ⟨b, o, none⟩ = none := by simp [World.cell?, h]
    have h2 := World.putObj_heap_same (o := .deferred y) (Array.getElem?_eq_some_iff.1 h).1
    rw [h1]
    simp [World.cell?, h2]
  · exact World.cell?_of_block (a := ⟨b, o, none⟩) (World.putObj_heap_other e)

theorem leaves_marks {F : Fence} {n : Nat} {fn : Func} {tmps : Array Value} {R : Ending → World → Prop} {u : FrameMode} (hu : u ≠ .run) : ∀ (cs : List Nat) (w : World), cs.Nodup → (∀ D, D ∈ cs → w.heap[D]? = some (.deferred (some []))) →
    (∀ w', Marked w w' cs → LeavesIn F n P fn tmps R [] u w') → LeavesInM F n P fn tmps R (cs.map fun D => ({ target := .collected D, args := #[] } : Deferred)) u w
  | [], w, _, _, h => h w ⟨fun _ _ => rfl, rfl, rfl, rfl, rfl, fun _ _ => rfl⟩
  | D :: cs, w, hn, hD, h => by
    rw [List.nodup_cons] at hn
    have hd := hD D (by simp)
    refine ⟨hu, .inl ⟨D, _, rfl, run_takeDeferred hd, leaves_marks hu cs _ hn.2 (fun D' hD' => ?_) fun w' hm => h w' ?_⟩⟩
    · rw [World.putObj_heap_other (fun e => by subst e; exact hn.1 hD')]
      exact hD D' (by simp [hD'])
    · refine ⟨fun b hb => ?_, hm.size.trans (by simp), hm.os, hm.tape, hm.output, fun b o => (hm.cell b o).trans (cell_unmark hd _ b o)⟩
      simp only [List.mem_cons, not_or] at hb
      rw [hm.other b hb.2, World.putObj_heap_other hb.1]

theorem Rep.marked {w0 w1 w w' : World} {X0 X1 : Ent} {a : Act} {σ : SState} {env : List D} {ρ : Rho} {cs : List Nat} (h : Rep w1 X1 w a σ env ρ) (h0 : Rep w0 X0 w a σ env ρ) (hc : ∀ D, D ∈ cs → D < w1.heap.size ∧ ¬ X1.may D ∧ ¬ X1.foot D ∧ w0.heap.size ≤ D) (hm : Marked w w' cs) : Rep w0 X0 w' a σ env ρ :=
  h0.move (fun b o _ => hm.cell b o) (Rho.More.refl ρ _) (fun o x b hx hb => hm.other b fun hD => by
    obtain ⟨h1, h2, h3, _⟩ := hc b hD
    rcases (h.own o x b hx hb).1 with g | g | g
    · exact h3 g.2
    · omega
    · exact h2 g) (fun _ _ _ _ _ _ hs => hs) (fun b o hs => by rw [hm.size]; exact h0.cells b o hs) hm.os hm.tape hm.output (by rw [hm.size]; exact Nat.le_refl _) (fun b hb _ => hm.other b fun hD => by have := (hc b hD).2.2.2; omega) fun b o hs => .inl hs

theorem Rep.putBoth {w0 w : World} {X : Ent} {a : Act} {σ : SState} {env : List D} {ρ : Rho} (h : Rep w0 X w a σ env ρ) {m : Nat} {r r' : Loop} (hm : w0.heap[m]? = some (.loop r)) (hn1 : ¬ X.may m) (hn2 : ¬ X.foot m) (hh : X.S.hold m = none) :
    w.heap[m]? = some (.loop r) ∧ Rep (w0.putObj m (.loop r')) X (w.putObj m (.loop r')) a σ env ρ := by
  have hlt : m < w0.heap.size := (Array.getElem?_eq_some_iff.1 hm).1
  have hw : w.heap[m]? = some (.loop r) := (h.old m hlt hn1).trans hm
  have hlt' : m < w.heap.size := (Array.getElem?_eq_some_iff.1 hw).1
  have hb : ∀ o x b, σ.obj o = some x → objBlk ρ o x b → b ≠ m := fun o x b hx hb e => by
    subst e
    rcases (h.own o x b hx hb).1 with g | g | g
    · exact hn2 g.2
    · omega
    · exact hn1 g
  have h1 : Rep w0 X w a σ env ρ := h
  refine ⟨hw, h.size, fun t => (h.tmps t).keep (Keeps.putObj hw r') (Rho.More.refl ρ (fun _ => False)) fun _ hf => hf.elim, fun o x hx => (h.objs o x hx).keep (Keeps.putObj hw r') (Rho.More.refl ρ (fun _ => False)) id (fun _ hf => hf.elim) (fun b hb' => World.putObj_heap_other (hb o x b hx hb')) (fun _ _ _ hs => hs), h.inj, fun o x b hx hb' => ?_, fun b o hs => ?_, h.os, h.tape, h.output, ?_, fun b hb1 hb2 => ?_, h.sub, fun b o hs => ?_, h.nod, fun l rec hl => ?_⟩
  · simp only [World.putObj_size]
    exact h.own o x b hx hb'
  · simp only [World.putObj_size]
    exact h.cells b o hs
  · simp only [World.putObj_size]
    exact h.grown
  · simp only [World.putObj_size] at hb1
    by_cases e : b = m
    · subst e
      rw [World.putObj_heap_same hlt, World.putObj_heap_same hlt']
    · rw [World.putObj_heap_other e, World.putObj_heap_other e]
      exact h.old b hb1 hb2
  · simp only [World.putObj_size]
    exact h.new b o hs
  · obtain ⟨g1, g2, g3⟩ := h.hold l rec hl
    have e : l ≠ m := fun e => by
      subst e
      rw [hh] at hl
      cases hl
    exact ⟨by rw [World.putObj_heap_other e]; exact g1, g2, g3⟩

end
end Go.Am
