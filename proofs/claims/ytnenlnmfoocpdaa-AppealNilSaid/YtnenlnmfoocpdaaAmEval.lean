/-
  An evaluator of the small language: what closed texts come to, by reckoning; and that it is right.
-/
import Derived.Test.YtnenlnmfoocpdaaAmFn
import Derived.Test.YtnenlnmfoocpdaaAmLocal
import Derived.Test.YtnenlnmfoocpdaaAmDefer
import Derived.Test.YtnenlnmfoocpdaaAmDefer2
set_option linter.unusedSimpArgs false
set_option linter.unusedVariables false
namespace Go.Am

/-! ## expressions that do not name one of the data -/

def E.noSym (k : Nat) : E → Bool
  | .sym j => j != k
  | .const _ | .nil | .tnil => true
  | .un _ a | .conv _ a | .lenL a | .lenS a | .scal a | .cell _ a | .cells _ _ a | .aggN _ a | .one a | .mkptr a | .tget _ a | .rep _ a _ | .deref a | .ifc _ a | .padd _ a | .nn a | .fstid a => a.noSym k
  | .bin _ _ a b | .idx a b | .idxN _ a b | .cons a b | .app _ _ a b | .lcons a b | .mkfn _ a b | .tcons a b | .mm _ a b | .eaddr _ a b | .ld _ _ a b | .newb _ _ a b | .newv _ _ a b | .fstsl a b | .frzv _ a b | .frzh a b | .guard a _ b => a.noSym k && b.noSym k
  | .sub _ a b c | .set a b _ c | .ite a b c | .sto _ a b c | .apph _ _ _ a b c | .apps a b c => a.noSym k && b.noSym k && c.noSym k
  | .m4 _ a b c d => a.noSym k && b.noSym k && c.noSym k && d.noSym k

theorem E.eval_noSym {k : Nat} {env env' : List D} (he : ∀ j, j ≠ k → env'[j]? = env[j]?) : ∀ (x : E), x.noSym k = true → x.eval env' = x.eval env := by
  intro x
  induction x <;> intro h <;> simp only [E.noSym, Bool.and_eq_true, bne_iff_ne, ne_eq] at h <;> simp only [E.eval]
  case sym j => exact he j h
  case ite c a b hc ha hb => rw [hc h.1.1, ha h.1.2, hb h.2]
  case guard c w a hc ha => rw [hc h.1, ha h.2]
  all_goals first
    | rfl
    | (rename_i ha; rw [ha h])
    | (rename_i ha hb; rw [ha h.1, hb h.2])
    | (rename_i ha hb hc; rw [ha h.1.1, hb h.1.2, hc h.2])
    | (rename_i ha hb hc hd; rw [ha h.1.1.1, hb h.1.1.2, hc h.1.2, hd h.2])

/-! ## the evaluator -/

/-- what is known of calls -/
structure Orc where
  R : FuncId → D → List D → Option Out
  W : FuncId → D → List D → Option (Out × D)
  F : FuncId → D → List D → Option D → Option D
  I : FuncId → D → List D → List D → (D → List D → Option D) → Option (D × D)

abbrev Hand := D → List D → Option D

def evE (yk : Option (Nat × Hand)) (env : List D) (x : E) : Option D :=
  match yk with
  | none => x.eval env
  | some (k, _) => if x.noSym k = true then x.eval env else none

def evAll (yk : Option (Nat × Hand)) (env : List D) : List E → Option (List D)
  | [] => some []
  | x :: r => (evE yk env x).bind fun d => (evAll yk env r).map (d :: ·)

/-- do the conditions hold? -/
def evAct (yk : Option (Nat × Hand)) (env : List D) : List (E × Bool) → Option Bool
  | [] => some true
  | p :: r => (evE yk env p.1).bind fun d => (evAct yk env r).map fun b => D.same d (.v (.bool p.2)) && b

def sigSame : Sig → Sig → Bool
  | .jump l a, .jump m b => decide (l = m) && D.sames a b
  | .ret a, .ret b => D.same a b
  | .pan a b s c, .pan a' b' s' c' => D.same a a' && D.same b b' && decide (s = s') && D.sames c c'
  | _, _ => false

def evRounds (l : Nat) (body : List D → Option Sig) : Nat → List D → Option Sig
  | 0, _ => none
  | n + 1, ds => (body ds).bind fun s => match s with
    | .jump l' ds' => if l' = l then evRounds l body n ds' else some s
    | _ => some s

/-- is the callee what is handed to a loop? -/
def isYk (yk : Option (Nat × Hand)) (x : E) : Option Hand :=
  match yk, x with
  | some (k, hd), .sym j => if j = k then some hd else none
  | _, _ => none

def evT (P : Program) (o : Orc) (n : Nat) (yk : Option (Nat × Hand)) : T → List D → Option Sig
  | .bind (.ev x) t, env => (evE yk env x).bind fun d => evT P o n yk t (env ++ [d])
  | .bind (.call act f h args rs) t, env => (evAct yk env act).bind fun b =>
      if b = true then (evE yk env h).bind fun st => (evAll yk env args).bind fun ds => (o.R f st ds).bind fun r => match r with
        | .ret d => if d.fits rs = true then evT P o n yk t (env ++ [d]) else none
        | .pan _ => none
      else evT P o n yk t (env ++ [D.undef])
  | .bind (.wcall act f h args rs) t, env => (evAct yk env act).bind fun b => (evE yk env h).bind fun st =>
      if b = true then (evAll yk env args).bind fun ds => (o.W f st ds).bind fun r => match r with
        | (.ret d, h') => if d.fits rs = true then evT P o n yk t (env ++ [.tup [d, h']]) else none
        | _ => none
      else evT P o n yk t (env ++ [.tup [D.undef, st]])
  | .bind (.callv act x h args rs) t, env => (evAct yk env act).bind fun b =>
      if b = true then (evE yk env x).bind fun xd => (evE yk env h).bind fun st => (evAll yk env args).bind fun ds => match xd with
        | .fn f us cs => if callable P f = true then (o.R f st (us ++ ds ++ cs)).bind fun r => match r with
          | .ret d => if d.fits rs = true then evT P o n yk t (env ++ [d]) else none
          | .pan _ => none
          else none
        | _ => none
      else evT P o n yk t (env ++ [D.undef])
  | .bind (.wcallv act x h args rs) t, env => (evAct yk env act).bind fun b => (evE yk env h).bind fun st =>
      if b = true then (evAll yk env args).bind fun ds => match isYk yk x with
        | some hd => (hd st ds).bind fun h' => if (D.bool true).fits rs = true then evT P o n yk t (env ++ [.tup [.bool true, h']]) else none
        | none => (evE yk env x).bind fun xd => match xd with
          | .fn f us cs => if callable P f = true then (o.W f st (us ++ ds ++ cs)).bind fun r => match r with
            | (.ret d, h') => if d.fits rs = true then evT P o n yk t (env ++ [.tup [d, h']]) else none
            | _ => none
            else none
          | _ => none
      else evT P o n yk t (env ++ [.tup [D.undef, st]])
  | .ite c a b, env => (evE yk env c).bind fun d => match d with
    | .v (.bool true) => evT P o n yk a env
    | .v (.bool false) => evT P o n yk b env
    | _ => none
  | .loop l inits body, env => (evAll yk env inits).bind fun ds => evRounds l (fun ds => if ds.length = inits.length then evT P o n yk body (env ++ ds) else none) n ds
  | .join l m body rest, env => (evT P o n yk body env).bind fun s => match s with
    | .jump l' ds => if l' = l then (if ds.length = m then evT P o n yk rest (env ++ ds) else none) else some s
    | _ => some s
  | .jump l vals, env => (evAll yk env vals).map (.jump l)
  | .ret x, env => (evE yk env x).map .ret
  | .pan x h sl ks, env => (evE yk env x).bind fun d => (evE yk env h).bind fun st => (evAll yk env ks).map fun kd => .pan d st sl kd
  | .nilq x neg t, env => (evE yk env x).bind fun d => match d.isNil with
    | some [b] => evT P o n yk t (env ++ [.v (.bool (b != neg))])
    | some [b, c] => (evT P o n yk t (env ++ [.v (.bool (b != neg))])).bind fun s => (evT P o n yk t (env ++ [.v (.bool (c != neg))])).bind fun s' => if sigSame s s' = true then some s else none
    | _ => none
  | .dfr f keep caps res t, env => (evAll yk env caps).bind fun cds => if cds.all D.isLoc = true then (evT P o n yk t env).bind fun s => match s with
      | .ret (.tup [.tup kd, st]) => (o.F f st cds none).bind fun st' => (res.eval (kd ++ [st'])).map fun d' => .ret (.tup [d', st'])
      | .pan d st sl kd => if sl = keep then (o.F f st cds (some d)).bind fun st' => (res.eval (kd ++ [st'])).map fun d' => .ret (.tup [d', st']) else none
      | _ => none
    else none
  | .pcall f h args rs sl ks t, env => (evE yk env h).bind fun st => (evAll yk env args).bind fun ds => (o.R f st ds).bind fun r => match r with
    | .ret d => if d.fits rs = true then evT P o n yk t (env ++ [d]) else none
    | .pan d => (evAll yk env ks).map fun kd => .pan d st sl kd
  | .wpcall f h args rs sl ks t, env => (evE yk env h).bind fun st => (evAll yk env args).bind fun ds => (o.W f st ds).bind fun r => match r with
    | (.ret d, h') => if d.fits rs = true then evT P o n yk t (env ++ [.tup [d, h']]) else none
    | (.pan d, h') => (evAll yk env ks).map fun kd => .pan d h' sl kd
  | .wpcallv x h args rs sl ks t, env => (evE yk env x).bind fun xd => (evE yk env h).bind fun st => (evAll yk env args).bind fun ds => match xd with
    | .fn f us cs => if callable P f = true then (o.W f st (us ++ ds ++ cs)).bind fun r => match r with
      | (.ret d, h') => if d.fits rs = true then evT P o n yk t (env ++ [.tup [d, h']]) else none
      | (.pan d, h') => (evAll yk env ks).map fun kd => .pan d h' sl kd
      else none
    | _ => none
  | .rfor x h _ caps m l body rest, env => match yk with
    | some _ => none
    | none => (x.eval env).bind fun xd => (h.eval env).bind fun st => (evalAll env caps).bind fun cds => match xd with
      | .fn f us cs => if callable P f = true ∧ noyls cds = true then
          (o.I f st us cs fun st1 ds => if st1.noyl = true ∧ noyls ds = true ∧ ds.length = m then (match evT P o n none body (env ++ [st1] ++ ds) with
            | some (.jump l' [st2]) => if l' = l then some st2 else none
            | _ => none) else none).bind fun r => if r.2.noyl = true then evT P o n none rest (env ++ [r.2]) else none
        else none
      | _ => none


def D.isYl : D → Prop
  | .yl _ _ _ _ => True
  | _ => False

/-- what is known of calls is right -/
structure OrcOk (P : Program) (o : Orc) : Prop where
  R : ∀ f st ds r, o.R f st ds = some r → FSpecO P f st ds r
  W : ∀ f st ds r h', o.W f st ds = some (r, h') → FSpecWO P f st ds r h'
  F : ∀ f st cs m st', o.F f st cs m = some st' → FSpecD P f st cs m st'
  I : ∀ f st us cs hd d st', o.I f st us cs hd = some (d, st') → ∀ y : D, y.isYl → (∀ st ds st', hd st ds = some st' → YSpec P y st ds st') → FSpecW P f st (us ++ [y] ++ cs) d st'

/-- the data, but for what is handed to a loop -/
def YkOk (P : Program) (yk : Option (Nat × Hand)) (env env' : List D) : Prop :=
  match yk with
  | none => env' = env
  | some (k, hd) => k < env.length ∧ env'.length = env.length ∧ (∀ j, j ≠ k → env'[j]? = env[j]?) ∧ ∃ y : D, env'[k]? = some y ∧ y.isYl ∧ ∀ st ds st', hd st ds = some st' → YSpec P y st ds st'

section
variable {P : Program} {o : Orc} {n : Nat} {yk : Option (Nat × Hand)}

theorem YkOk.more {env env' : List D} (h : YkOk P yk env env') (ds : List D) : YkOk P yk (env ++ ds) (env' ++ ds) := by
  unfold YkOk at h ⊢
  split
  · rw [h]
  · rename_i k hd
    obtain ⟨h1, h2, h3, y, h4, h5, h6⟩ := h
    refine ⟨by simp; omega, by simp [h2], fun j hj => ?_, y, by rw [List.getElem?_append_left (by omega)]; exact h4, h5, h6⟩
    rcases Nat.lt_or_ge j env.length with hl | hl
    · rw [List.getElem?_append_left (by omega), List.getElem?_append_left hl]
      exact h3 j hj
    · rw [List.getElem?_append_right (by omega), List.getElem?_append_right hl, h2]

theorem evE_sound {env env' : List D} (h : YkOk P yk env env') {x : E} {d : D} (hx : evE yk env x = some d) : x.eval env' = some d := by
  unfold evE at hx
  unfold YkOk at h
  split at hx
  · rw [h]; exact hx
  · rename_i k hd
    split at hx
    · rename_i hn
      rw [E.eval_noSym h.2.2.1 x hn]
      exact hx
    · cases hx

theorem evAll_sound {env env' : List D} (h : YkOk P yk env env') : ∀ {l : List E} {ds : List D}, evAll yk env l = some ds → evalAll env' l = some ds
  | [], ds, hd => by simpa [evAll, evalAll] using hd
  | x :: r, ds, hd => by
    simp only [evAll, Option.bind_eq_some_iff, Option.map_eq_some_iff] at hd
    obtain ⟨d, h1, ds', h2, rfl⟩ := hd
    simp only [evalAll, evE_sound h h1, evAll_sound h h2, Option.bind_some, Option.map_some]

theorem evAct_sound {env env' : List D} (h : YkOk P yk env env') : ∀ {act : List (E × Bool)} {b : Bool}, evAct yk env act = some b → (∀ p, p ∈ act → ∃ d, p.1.eval env' = some d) ∧ (b = true ↔ actHolds env' act)
  | [], b, hb => by
    simp only [evAct, Option.some.injEq] at hb
    subst hb
    exact ⟨by simp, by simp [actHolds_nil]⟩
  | p :: r, b, hb => by
    simp only [evAct, Option.bind_eq_some_iff, Option.map_eq_some_iff] at hb
    obtain ⟨d, h1, b', h2, rfl⟩ := hb
    obtain ⟨h3, h4⟩ := evAct_sound h h2
    have hx := evE_sound h h1
    refine ⟨fun q hq => ?_, ?_⟩
    · cases hq with
      | head => exact ⟨d, hx⟩
      | tail _ hq => exact h3 q hq
    · rw [Bool.and_eq_true, h4]
      constructor
      · rintro ⟨g1, g2⟩ q hq
        cases hq with
        | head => rw [hx, D.same_eq g1]
        | tail _ hq => exact g2 q hq
      · intro g
        refine ⟨?_, fun q hq => g q (by simp [hq])⟩
        have := g p (by simp)
        rw [hx] at this
        cases this
        simp [D.same, Value.same]

theorem sigSame_eq {s s' : Sig} (h : sigSame s s' = true) : s = s' := by
  unfold sigSame at h
  split at h
  · simp only [Bool.and_eq_true, decide_eq_true_eq] at h; rw [h.1, D.sames_eq h.2]
  · rw [D.same_eq h]
  · simp only [Bool.and_eq_true, decide_eq_true_eq] at h; rw [D.same_eq h.1.1.1, D.same_eq h.1.1.2, h.1.2, D.sames_eq h.2]
  · cases h

theorem evRounds_sound {l : Nat} {ev : List D → Option Sig} {body : List D → (Sig → Prop) → Prop} {s : Sig} (hb : ∀ ds s', ev ds = some s' → ∀ Q : Sig → Prop, Q s' → body ds Q) : ∀ (n : Nat) (ds : List D), evRounds l ev n ds = some s → rounds l body (fun s' => s' = s) n ds
  | 0, ds, h => by simp [evRounds] at h
  | n + 1, ds, h => by
    simp only [evRounds, Option.bind_eq_some_iff] at h
    obtain ⟨s1, h1, h2⟩ := h
    refine hb ds s1 h1 _ ?_
    cases s1 with
    | jump l' ds' =>
      simp only [catchL] at h2 ⊢
      split at h2
      · rename_i e; rw [if_pos e]; exact evRounds_sound hb n ds' h2
      · rename_i e; rw [if_neg e]; cases h2; rfl
    | ret d => cases h2; rfl
    | pan d st sl kd => cases h2; rfl

theorem isYk_sound {env env' : List D} (h : YkOk P yk env env') {x : E} {hd : Hand} (hx : isYk yk x = some hd) : ∃ y : D, x.eval env' = some y ∧ y.isYl ∧ ∀ st ds st', hd st ds = some st' → YSpec P y st ds st' := by
  unfold isYk at hx
  split at hx
  · rename_i k hd' j
    split at hx
    · rename_i e
      cases hx
      subst e
      obtain ⟨_, _, _, y, h4, h5, h6⟩ := h
      exact ⟨y, h4, h5, h6⟩
    · cases hx
  · cases hx

/-- **The evaluator is right.** -/
theorem evT_sound (ho : OrcOk P o) : ∀ {t : T} {yk : Option (Nat × Hand)} {env env' : List D} {s : Sig}, YkOk P yk env env' → evT P o n yk t env = some s → den P t env' fun s' => s' = s := by
  intro t
  induction t with
  | bind b t ih =>
    intro yk env env' s hy h
    cases b with
    | ev x =>
      simp only [evT, Option.bind_eq_some_iff] at h
      obtain ⟨d, h1, h2⟩ := h
      exact ⟨d, evE_sound hy h1, ih (hy.more [d]) h2⟩
    | call act f hE args rs =>
      simp only [evT, Option.bind_eq_some_iff] at h
      obtain ⟨b, h1, h2⟩ := h
      obtain ⟨g1, g2⟩ := evAct_sound hy h1
      split at h2
      · obtain ⟨st, k1, ds, k2, r, k3, k4⟩ := (by simpa only [Option.bind_eq_some_iff] using h2 : ∃ st, evE yk env hE = some st ∧ ∃ ds, evAll yk env args = some ds ∧ ∃ r, o.R f st ds = some r ∧ _)
        split at k4
        · rename_i d
          split at k4
          · rename_i hf
            exact ⟨g1, d, fun _ => ⟨st, ds, evE_sound hy k1, evAll_sound hy k2, ho.R _ _ _ _ k3, hf⟩, ih (hy.more [d]) k4⟩
          · cases k4
        · cases k4
      · rename_i hb
        exact ⟨g1, D.undef, fun ha => absurd (g2.2 ha) hb, ih (hy.more _) h2⟩
    | wcall act f hE args rs =>
      simp only [evT, Option.bind_eq_some_iff] at h
      obtain ⟨b, h1, st, k1, h2⟩ := h
      obtain ⟨g1, g2⟩ := evAct_sound hy h1
      split at h2
      · rename_i hb
        obtain ⟨ds, k2, r, k3, k4⟩ := (by simpa only [Option.bind_eq_some_iff] using h2 : ∃ ds, evAll yk env args = some ds ∧ ∃ r, o.W f st ds = some r ∧ _)
        split at k4
        · rename_i d h'
          split at k4
          · rename_i hf
            exact ⟨g1, st, d, h', evE_sound hy k1, fun _ => ⟨ds, evAll_sound hy k2, ho.W _ _ _ _ _ k3, hf⟩, fun hn => absurd (g2.1 hb) hn, ih (hy.more _) k4⟩
          · cases k4
        · cases k4
      · rename_i hb
        exact ⟨g1, st, D.undef, st, evE_sound hy k1, fun ha => absurd (g2.2 ha) hb, fun _ => rfl, ih (hy.more _) h2⟩
    | callv act x hE args rs =>
      simp only [evT, Option.bind_eq_some_iff] at h
      obtain ⟨b, h1, h2⟩ := h
      obtain ⟨g1, g2⟩ := evAct_sound hy h1
      split at h2
      · obtain ⟨xd, k0, st, k1, ds, k2, k3⟩ := (by simpa only [Option.bind_eq_some_iff] using h2 : ∃ xd, evE yk env x = some xd ∧ ∃ st, evE yk env hE = some st ∧ ∃ ds, evAll yk env args = some ds ∧ _)
        split at k3
        · rename_i f us cs
          split at k3
          · rename_i hcl
            obtain ⟨r, k3, k4⟩ := Option.bind_eq_some_iff.1 k3
            split at k4
            · rename_i d
              split at k4
              · rename_i hf
                exact ⟨g1, d, fun _ => ⟨f, us, cs, st, ds, evE_sound hy k0, hcl, evE_sound hy k1, evAll_sound hy k2, ho.R _ _ _ _ k3, hf⟩, ih (hy.more [d]) k4⟩
              · cases k4
            · cases k4
          · cases k3
        · cases k3
      · rename_i hb
        exact ⟨g1, D.undef, fun ha => absurd (g2.2 ha) hb, ih (hy.more _) h2⟩
    | wcallv act x hE args rs =>
      simp only [evT, Option.bind_eq_some_iff] at h
      obtain ⟨b, h1, st, k1, h2⟩ := h
      obtain ⟨g1, g2⟩ := evAct_sound hy h1
      split at h2
      · rename_i hb
        obtain ⟨ds, k2, h2⟩ := Option.bind_eq_some_iff.1 h2
        split at h2
        · rename_i hd hyk
          obtain ⟨y, y1, y2, y3⟩ := isYk_sound hy hyk
          obtain ⟨h', k3, k4⟩ := Option.bind_eq_some_iff.1 h2
          split at k4
          · rename_i hf
            refine ⟨g1, st, .bool true, h', evE_sound hy k1, fun _ => ⟨y, ds, y1, evAll_sound hy k2, ?_, hf⟩, fun hn => absurd (g2.1 hb) hn, ih (hy.more _) k4⟩
            cases y <;> simp only [D.isYl] at y2
            exact ⟨rfl, y3 _ _ _ k3⟩
          · cases k4
        · obtain ⟨xd, k0, h2⟩ := Option.bind_eq_some_iff.1 h2
          split at h2
          · rename_i f us cs
            split at h2
            · rename_i hcl
              obtain ⟨r, k3, k4⟩ := Option.bind_eq_some_iff.1 h2
              split at k4
              · rename_i d h'
                split at k4
                · rename_i hf
                  exact ⟨g1, st, d, h', evE_sound hy k1, fun _ => ⟨_, ds, evE_sound hy k0, evAll_sound hy k2, ⟨hcl, ho.W _ _ _ _ _ k3⟩, hf⟩, fun hn => absurd (g2.1 hb) hn, ih (hy.more _) k4⟩
                · cases k4
              · cases k4
            · cases h2
          · cases h2
      · rename_i hb
        exact ⟨g1, st, D.undef, st, evE_sound hy k1, fun ha => absurd (g2.2 ha) hb, fun _ => rfl, ih (hy.more _) h2⟩
  | ite c a b iha ihb =>
    intro yk env env' s hy h
    simp only [evT, Option.bind_eq_some_iff] at h
    obtain ⟨d, h1, h2⟩ := h
    have hx := evE_sound hy h1
    split at h2
    · exact ⟨true, hx, (fun _ => iha hy h2), fun e => (by cases e)⟩
    · exact ⟨false, hx, (fun e => (by cases e)), fun _ => ihb hy h2⟩
    · cases h2
  | loop l inits body ih =>
    intro yk env env' s hy h
    simp only [evT, Option.bind_eq_some_iff] at h
    obtain ⟨ds, h1, h2⟩ := h
    refine ⟨ds, evAll_sound hy h1, n, evRounds_sound (fun ds s' hs Q hq => ?_) n ds h2⟩
    split at hs
    · rename_i hl
      exact ⟨hl, den_mono (fun s1 e => by rw [e]; exact hq) (ih (hy.more ds) hs)⟩
    · cases hs
  | join l m body rest ihb ihr =>
    intro yk env env' s hy h
    simp only [evT, Option.bind_eq_some_iff] at h
    obtain ⟨s1, h1, h2⟩ := h
    show den P body env' _
    refine den_mono (fun s' e => ?_) (ihb hy h1)
    subst e
    cases s' with
    | jump l' ds =>
      simp only [catchL] at h2 ⊢
      split at h2
      · rename_i e
        rw [if_pos e]
        split at h2
        · rename_i hl
          exact ⟨hl, ihr (hy.more ds) h2⟩
        · cases h2
      · rename_i e; rw [if_neg e]; cases h2; rfl
    | ret d => cases h2; rfl
    | pan d st sl kd => cases h2; rfl
  | jump l vals =>
    intro yk env env' s hy h
    simp only [evT, Option.map_eq_some_iff] at h
    obtain ⟨ds, h1, rfl⟩ := h
    exact ⟨ds, evAll_sound hy h1, rfl⟩
  | ret x =>
    intro yk env env' s hy h
    simp only [evT, Option.map_eq_some_iff] at h
    obtain ⟨d, h1, rfl⟩ := h
    exact ⟨d, evE_sound hy h1, rfl⟩
  | pan x hE sl ks =>
    intro yk env env' s hy h
    simp only [evT, Option.bind_eq_some_iff, Option.map_eq_some_iff] at h
    obtain ⟨d, h1, st, h2, kd, h3, rfl⟩ := h
    exact ⟨d, st, kd, evE_sound hy h1, evE_sound hy h2, evAll_sound hy h3, rfl⟩
  | nilq x neg t ih =>
    intro yk env env' s hy h
    simp only [evT, Option.bind_eq_some_iff] at h
    obtain ⟨d, h1, h2⟩ := h
    split at h2
    · rename_i b hb
      refine ⟨d, [b], evE_sound hy h1, hb, fun b' hb' => ?_⟩
      simp at hb'
      subst hb'
      exact ih (hy.more _) h2
    · rename_i b c hb
      obtain ⟨s1, k1, h2⟩ := Option.bind_eq_some_iff.1 h2
      obtain ⟨s2, k2, h2⟩ := Option.bind_eq_some_iff.1 h2
      split at h2
      · rename_i hs
        cases h2
        have := sigSame_eq hs
        subst this
        refine ⟨d, [b, c], evE_sound hy h1, hb, fun b' hb' => ?_⟩
        simp at hb'
        rcases hb' with rfl | rfl
        · exact ih (hy.more _) k1
        · exact ih (hy.more _) k2
      · cases h2
    · cases h2
  | dfr f keep caps res t ih =>
    intro yk env env' s hy h
    simp only [evT, Option.bind_eq_some_iff] at h
    obtain ⟨cds, h1, h2⟩ := h
    split at h2
    · rename_i hloc
      obtain ⟨s1, k1, h2⟩ := Option.bind_eq_some_iff.1 h2
      refine ⟨cds, evAll_sound hy h1, hloc, den_mono (fun s' e => ?_) (ih hy k1)⟩
      subst e
      split at h2
      · rename_i kd st
        obtain ⟨st', k2, h2⟩ := Option.bind_eq_some_iff.1 h2
        obtain ⟨d', k3, rfl⟩ := Option.map_eq_some_iff.1 h2
        exact ⟨st', d', ho.F _ _ _ _ _ k2, k3, rfl⟩
      · rename_i d st sl kd
        split at h2
        · rename_i hk
          obtain ⟨st', k2, h2⟩ := Option.bind_eq_some_iff.1 h2
          obtain ⟨d', k3, rfl⟩ := Option.map_eq_some_iff.1 h2
          exact ⟨hk, st', d', ho.F _ _ _ _ _ k2, k3, rfl⟩
        · cases h2
      · cases h2
    · cases h2
  | pcall f hE args rs sl ks t ih =>
    intro yk env env' s hy h
    simp only [evT, Option.bind_eq_some_iff] at h
    obtain ⟨st, h1, ds, h2, r, h3, h4⟩ := h
    refine ⟨st, ds, r, evE_sound hy h1, evAll_sound hy h2, ho.R _ _ _ _ h3, ?_⟩
    cases r with
    | ret d =>
      simp only at h4
      split at h4
      · rename_i hf; exact ⟨hf, ih (hy.more _) h4⟩
      · cases h4
    | pan d =>
      simp only at h4
      obtain ⟨kd, k1, rfl⟩ := Option.map_eq_some_iff.1 h4
      exact ⟨kd, evAll_sound hy k1, rfl⟩
  | wpcall f hE args rs sl ks t ih =>
    intro yk env env' s hy h
    simp only [evT, Option.bind_eq_some_iff] at h
    obtain ⟨st, h1, ds, h2, ⟨r, h'⟩, h3, h4⟩ := h
    refine ⟨st, ds, r, h', evE_sound hy h1, evAll_sound hy h2, ho.W _ _ _ _ _ h3, ?_⟩
    cases r with
    | ret d =>
      simp only at h4
      split at h4
      · rename_i hf; exact ⟨hf, ih (hy.more _) h4⟩
      · cases h4
    | pan d =>
      simp only at h4
      obtain ⟨kd, k1, rfl⟩ := Option.map_eq_some_iff.1 h4
      exact ⟨kd, evAll_sound hy k1, rfl⟩
  | wpcallv x hE args rs sl ks t ih =>
    intro yk env env' s hy h
    simp only [evT, Option.bind_eq_some_iff] at h
    obtain ⟨xd, h0, st, h1, ds, h2, h3⟩ := h
    split at h3
    · rename_i f us cs
      split at h3
      · rename_i hcl
        obtain ⟨⟨r, h'⟩, h3, h4⟩ := Option.bind_eq_some_iff.1 h3
        refine ⟨f, us, cs, st, ds, r, h', evE_sound hy h0, hcl, evE_sound hy h1, evAll_sound hy h2, ho.W _ _ _ _ _ h3, ?_⟩
        cases r with
        | ret d =>
          simp only at h4
          split at h4
          · rename_i hf; exact ⟨hf, ih (hy.more _) h4⟩
          · cases h4
        | pan d =>
          simp only at h4
          obtain ⟨kd, k1, rfl⟩ := Option.map_eq_some_iff.1 h4
          exact ⟨kd, evAll_sound hy k1, rfl⟩
      · cases h3
    · cases h3
  | rfor x hE sl caps m l body rest ihb ihr =>
    intro yk env env' s hy h
    cases yk with
    | some _ => simp [evT] at h
    | none =>
    have hy' : env' = env := hy
    subst hy'
    simp only [evT, Option.bind_eq_some_iff] at h
    obtain ⟨xd, h1, st, h2, cds, h3, h4⟩ := h
    split at h4
    · rename_i f us cs
      split at h4
      · rename_i hc
        obtain ⟨⟨d, st'⟩, k1, k2⟩ := Option.bind_eq_some_iff.1 h4
        split at k2
        · rename_i hn
          refine ⟨f, us, cs, st, cds, d, st', h1, hc.1, h2, h3, hc.2, hn, fun mm rec hspec => ho.I _ _ _ _ _ _ _ k1 _ trivial fun st1 ds st2 hh => ?_, ihr (yk := none) rfl k2⟩
          split at hh
          · rename_i hcc
            split at hh
            · rename_i l' st3 hev
              split at hh
              · rename_i hl
                cases hh
                subst hl
                exact hspec st1 ds st2 hcc.1 hcc.2.1 hcc.2.2 (ihb (yk := none) rfl hev)
              · cases hh
            · cases hh
          · cases hh
        · cases k2
      · cases h4
    · cases h4

end

/-! ## a table of functions -/

inductive Kn where
  | plain | defers (keep : List Nat) | recovers
  deriving Inhabited

/-- a function, as a text -/
structure Entry where
  f : FuncId
  kn : Kn
  cf : StCfg
  /-- it is run at the empty store, and is a reader wherever it is called -/
  own : Bool
  ones : List Bool
  t : T

def EntOk (P : Program) (e : Entry) : Prop :=
  ∃ fn, P.funcs[e.f]? = some fn ∧ paramOnes P fn = e.ones ∧ match e.kn with
    | .plain => compileFn P e.cf fn = some e.t
    | .defers keep => compileDefer P e.cf fn keep = some e.t
    | .recovers => compileR P e.cf fn = some e.t

theorem EntOk.ofPlain {P : Program} {f : FuncId} {cf : StCfg} {own : Bool} {ones : List Bool} {t : T} {fn : Func} (hf : P.funcs[f]? = some fn) (h1 : paramOnes P fn = ones) (h2 : compileFn P cf fn = some t) : EntOk P { f := f, kn := .plain, cf := cf, own := own, ones := ones, t := t } := ⟨fn, hf, h1, h2⟩

theorem EntOk.ofDefers {P : Program} {f : FuncId} {cf : StCfg} {own : Bool} {ones : List Bool} {t : T} {fn : Func} {keep : List Nat} (hf : P.funcs[f]? = some fn) (h1 : paramOnes P fn = ones) (h2 : compileDefer P cf fn keep = some t) : EntOk P { f := f, kn := .defers keep, cf := cf, own := own, ones := ones, t := t } := ⟨fn, hf, h1, h2⟩

theorem EntOk.ofRecovers {P : Program} {f : FuncId} {cf : StCfg} {own : Bool} {ones : List Bool} {t : T} {fn : Func} (hf : P.funcs[f]? = some fn) (h1 : paramOnes P fn = ones) (h2 : compileR P cf fn = some t) : EntOk P { f := f, kn := .recovers, cf := cf, own := own, ones := ones, t := t } := ⟨fn, hf, h1, h2⟩

abbrev Tab := List Entry

def tabAt : Tab → FuncId → Option Entry
  | [], _ => none
  | e :: r, f => if e.f = f then some e else tabAt r f

theorem tabAt_some : ∀ {tb : Tab} {f : FuncId} {e : Entry}, tabAt tb f = some e → e ∈ tb ∧ e.f = f
  | [], _, _, h => by simp [tabAt] at h
  | e' :: r, f, e, h => by
    simp only [tabAt] at h
    split at h
    · rename_i hf; cases h; exact ⟨by simp, hf⟩
    · obtain ⟨h1, h2⟩ := tabAt_some h; exact ⟨by simp [h1], h2⟩

def Kn.calls : Kn → Bool
  | .recovers => false
  | _ => true

/-- what a call comes to -/
def evFn (P : Program) (o : Orc) (n : Nat) (e : Entry) (bs ds : List D) : Option (Out × List D) :=
  if e.kn.calls = true ∧ argsFit e.ones ds = true then match evT P o n none e.t (ds ++ [.st bs]) with
    | some (.ret (.tup [d, .st bs'])) => some (.ret d, bs')
    | some (.pan d (.st bs') _ _) => some (.pan d, bs')
    | _ => none
  else none

def Kn.isPlain : Kn → Bool
  | .plain => true
  | _ => false

def sameOut (bs : List D) : Option (Out × List D) → Option Out
  | some (r, bs') => if D.sames bs' bs = true then some r else none
  | none => none

def ownOut : Option (Out × List D) → Option Out
  | some (r, _) => if Out.noid r = true then some r else none
  | none => none

theorem sameOut_some {bs : List D} {x : Option (Out × List D)} {r : Out} (h : sameOut bs x = some r) : x = some (r, bs) := by
  unfold sameOut at h
  split at h
  · split at h
    · rename_i hs; cases h; rw [D.sames_eq hs]
    · cases h
  · cases h

theorem ownOut_some {x : Option (Out × List D)} {r : Out} (h : ownOut x = some r) : ∃ bs, x = some (r, bs) ∧ r.noid = true := by
  unfold ownOut at h
  split at h
  · split at h
    · rename_i hs; cases h; exact ⟨_, rfl, hs⟩
    · cases h
  · cases h

def nextOrc (P : Program) (tb : Tab) (n : Nat) (o : Orc) : Orc where
  R := fun f st ds => match st, tabAt tb f with
    | .st bs, some e => if e.own = true then (if noids ds = true then ownOut (evFn P o n e [] ds) else none)
      else if e.cf.ro = true ∧ e.kn.isPlain = true then sameOut bs (evFn P o n e bs ds) else none
    | _, _ => none
  W := fun f st ds => match st, tabAt tb f with
    | .st bs, some e => (evFn P o n e bs ds).map fun x => (x.1, .st x.2)
    | _, _ => none
  F := fun f st cs m => match st, tabAt tb f with
    | .st bs, some e => (match e.kn with
      | .recovers => if argsFit e.ones cs = true ∧ (recD m).one = true then (match evT P o n none e.t (cs ++ [.st bs, recD m]) with
        | some (.ret (.tup [_, .st bs'])) => some (.st bs')
        | _ => none) else none
      | _ => none)
    | _, _ => none
  I := fun f st us cs hd => match st, tabAt tb f with
    | .st bs, some e => (match e.kn with
      | .plain => if argsFit e.ones (us ++ [D.undef] ++ cs) = true ∨ argsFit e.ones (us ++ [.snil] ++ cs) = true then (match evT P o n (some (us.length, hd)) e.t (us ++ [.snil] ++ cs ++ [.st bs]) with
        | some (.ret (.tup [d, .st bs'])) => some (d, .st bs')
        | _ => none) else none
      | _ => none)
    | _, _ => none

def runOrc (P : Program) (tb : Tab) (n : Nat) : Nat → Orc
  | 0 => { R := fun _ _ _ => none, W := fun _ _ _ => none, F := fun _ _ _ _ => none, I := fun _ _ _ _ _ => none }
  | k + 1 => nextOrc P tb n (runOrc P tb n k)

section
variable {P : Program} {o : Orc} {n : Nat} {tb : Tab}

theorem evFn_sound (ho : OrcOk P o) {e : Entry} (he : EntOk P e) {bs ds bs' : List D} {r : Out} (h : evFn P o n e bs ds = some (r, bs')) : FSpecWO P e.f (.st bs) ds r (.st bs') ∧ (e.cf.ro = true → e.kn.isPlain = true → bs' = bs → FSpecO P e.f (.st bs) ds r) := by
  unfold evFn at h
  split at h
  · rename_i hc
    obtain ⟨hk, hfit⟩ := hc
    obtain ⟨fn, hf, hones, hcomp⟩ := he
    rw [← hones] at hfit
    have key : ∀ s, evT P o n none e.t (ds ++ [.st bs]) = some s → (∀ s', s' = s → EndsIn r (.st bs') s') → FSpecWO P e.f (.st bs) ds r (.st bs') ∧ (e.cf.ro = true → e.kn.isPlain = true → bs' = bs → FSpecO P e.f (.st bs) ds r) := by
      intro s hs hend
      have hden := den_mono hend (evT_sound ho (yk := none) rfl hs)
      cases hkn : e.kn with
      | plain =>
        rw [hkn] at hcomp
        exact ⟨fspecWO hf hcomp hfit hden, fun hro _ hb => by subst hb; exact fspecO hro hf hcomp hfit hden⟩
      | defers keep =>
        rw [hkn] at hcomp
        exact ⟨fspecDefer hf hcomp hfit hden, fun _ h => (by simp [Kn.isPlain] at h)⟩
      | recovers =>
        rw [hkn] at hk
        simp [Kn.calls] at hk
    split at h
    · rename_i d bs1 hs
      cases h
      exact key _ hs fun s' e => e
    · rename_i d bs1 sl kd hs
      cases h
      exact key _ hs fun s' e => ⟨sl, kd, e⟩
    · cases h
  · cases h

theorem nextOrc_ok (htb : ∀ e, e ∈ tb → EntOk P e) (ho : OrcOk P o) : OrcOk P (nextOrc P tb n o) := by
  refine ⟨fun f st ds r h => ?_, fun f st ds r h' h => ?_, fun f st cs m st' h => ?_, fun f st us cs hd d st' h y hy hsp => ?_⟩
  · simp only [nextOrc] at h
    split at h
    · rename_i bs e he
      obtain ⟨h1, rfl⟩ := tabAt_some he
      split at h
      · split at h
        · rename_i hn
          obtain ⟨bs', hev, hno⟩ := ownOut_some h
          exact (evFn_sound ho (htb e h1) hev).1.localize hn hno bs
        · cases h
      · split at h
        · rename_i hro
          exact (evFn_sound ho (htb e h1) (sameOut_some h)).2 hro.1 hro.2 rfl
        · cases h
    · cases h
  · simp only [nextOrc] at h
    split at h
    · rename_i bs e he
      obtain ⟨h1, rfl⟩ := tabAt_some he
      obtain ⟨⟨r', bs'⟩, h2, h3⟩ := Option.map_eq_some_iff.1 h
      cases h3
      exact (evFn_sound ho (htb e h1) h2).1
    · cases h
  · simp only [nextOrc] at h
    split at h
    · rename_i bs e he
      obtain ⟨h1, rfl⟩ := tabAt_some he
      obtain ⟨fn, hf, hones, hcomp⟩ := htb e h1
      split at h
      · rename_i hkn
        rw [hkn] at hcomp
        split at h
        · rename_i hc
          split at h
          · rename_i d0 bs' hs
            cases h
            exact fspecD hf hcomp (by rw [hones]; exact hc.1) hc.2 (evT_sound ho (yk := none) rfl hs)
          · cases h
        · cases h
      · cases h
    · cases h
  · simp only [nextOrc] at h
    split at h
    · rename_i bs e he
      obtain ⟨h1, rfl⟩ := tabAt_some he
      obtain ⟨fn, hf, hones, hcomp⟩ := htb e h1
      split at h
      · rename_i hkn
        rw [hkn] at hcomp
        split at h
        · rename_i hc
          split at h
          · rename_i d0 bs' hs
            cases h
            have hy1 : y.one = true := by cases y <;> first | rfl | simp [D.isYl] at hy
            have hfit : ∀ (z : D), z.one = true ∨ z.one = false → ∀ (ones : List Bool) (us : List D), argsFit ones (us ++ [z] ++ cs) = true → argsFit ones (us ++ [y] ++ cs) = true := by
              intro z _ ones
              induction ones with
              | nil => intro us hh; cases us <;> simp [argsFit] at hh
              | cons b ones ih =>
                intro us hh
                cases us with
                | nil =>
                  simp only [List.nil_append, List.cons_append, argsFit, Bool.and_eq_true, Bool.or_eq_true, Bool.not_eq_true'] at hh ⊢
                  exact ⟨.inr hy1, hh.2⟩
                | cons u us =>
                  simp only [List.cons_append, argsFit, Bool.and_eq_true] at hh ⊢
                  exact ⟨hh.1, ih us hh.2⟩
            refine fspecWO hf hcomp (by rw [hones]; exact hc.elim (hfit _ (by simp [D.one]) _ _) (hfit _ (by simp [D.one]) _ _)) (evT_sound ho (yk := some (us.length, hd)) (env := us ++ [.snil] ++ cs ++ [.st bs]) ⟨by simp, by simp, fun j hj => ?_, y, by simp, hy, hsp⟩ hs)
            rcases Nat.lt_trichotomy j us.length with hl | hl | hl
            · simp only [List.append_assoc]
              rw [List.getElem?_append_left hl, List.getElem?_append_left hl]
            · exact absurd hl hj
            · simp only [List.append_assoc]
              rw [List.getElem?_append_right (Nat.le_of_lt hl), List.getElem?_append_right (Nat.le_of_lt hl)]
              obtain ⟨m, hm⟩ : ∃ m, j - us.length = m + 1 := ⟨j - us.length - 1, by omega⟩
              rw [hm]
              simp
          · cases h
        · cases h
      · cases h
    · cases h

/-- **What the table's functions come to.** -/
theorem runOrc_ok (htb : ∀ e, e ∈ tb → EntOk P e) : ∀ k, OrcOk P (runOrc P tb n k)
  | 0 => ⟨fun _ _ _ _ h => by simp [runOrc] at h, fun _ _ _ _ _ h => by simp [runOrc] at h, fun _ _ _ _ _ h => by simp [runOrc] at h, fun _ _ _ _ _ _ _ h => by simp [runOrc] at h⟩
  | k + 1 => nextOrc_ok htb (runOrc_ok htb k)

end
end Go.Am
