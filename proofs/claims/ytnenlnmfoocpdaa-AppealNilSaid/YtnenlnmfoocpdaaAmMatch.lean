/-
  Where ways meet: one symbolic state fits a more general one, whose new names stand for data.
-/
import Derived.Test.YtnenlnmfoocpdaaAmIR
set_option linter.unusedSimpArgs false
set_option linter.unusedVariables false
namespace Go.Am

def E.upto (n : Nat) : E → Bool
  | .sym k => decide (k < n)
  | .const _ | .nil | .tnil => true
  | .bin _ _ a b | .idx a b | .idxN _ a b | .cons a b | .app _ _ a b | .lcons a b | .mkfn _ a b | .guard a _ b | .tcons a b | .mm _ a b | .eaddr _ a b | .ld _ _ a b | .newb _ _ a b | .newv _ _ a b | .fstsl a b | .frzv _ a b | .frzh a b => a.upto n && b.upto n
  | .un _ a | .conv _ a | .lenL a | .lenS a | .scal a | .cell _ a | .cells _ _ a | .aggN _ a | .one a | .tget _ a | .rep _ a _ | .deref a | .ifc _ a | .mkptr a | .padd _ a | .nn a | .fstid a => a.upto n
  | .sub _ a b c | .ite a b c | .sto _ a b c | .apph _ _ _ a b c | .apps a b c => a.upto n && b.upto n && c.upto n
  | .set a b _ c => a.upto n && b.upto n && c.upto n
  | .m4 _ a b c d => a.upto n && b.upto n && c.upto n && d.upto n

theorem E.eval_upto {n : Nat} {env env' : List D} (h : ∀ k, k < n → env[k]? = env'[k]?) : ∀ {x : E}, x.upto n = true → x.eval env = x.eval env' := by
  intro x
  induction x <;> intro hb <;> simp only [E.upto, Bool.and_eq_true, decide_eq_true_eq] at hb <;> simp only [E.eval]
  case sym k => exact h k hb
  all_goals first
    | rfl
    | (rename_i ih; rw [ih hb])
    | (rename_i i1 i2; rw [i1 hb.1, i2 hb.2])
    | (rename_i i1 i2 i3; rw [i1 hb.1.1, i2 hb.1.2, i3 hb.2])
    | (rename_i i1 i2 i3 i4; rw [i1 hb.1.1.1, i2 hb.1.1.2, i3 hb.1.2, i4 hb.2])

mutual
def SV.upto (n : Nat) : SV → Bool
  | .junk | .addr _ _ | .slc _ => true
  | .e x _ | .eaddr _ x _ _ | .iptr x _ | .own x _ => x.upto n
  | .agg cs | .tup cs => SV.uptoAll n cs
  | .func _ cs => SV.uptoAll n cs
  | .cond act sv => act.all (fun p => p.1.upto n) && sv.upto n
def SV.uptoAll (n : Nat) : List SV → Bool
  | [] => true
  | s :: r => s.upto n && SV.uptoAll n r
end

theorem SV.uptoAll_get {n : Nat} : ∀ {cs : List SV} {i : Nat} {c : SV}, SV.uptoAll n cs = true → cs[i]? = some c → c.upto n = true
  | [], i, c, _, h => by simp at h
  | s :: r, 0, c, h, hi => by simp [SV.uptoAll] at h hi; exact hi ▸ h.1
  | s :: r, i + 1, c, h, hi => by simp [SV.uptoAll] at h hi; exact SV.uptoAll_get h.2 hi

theorem SRd.cut {w : World} {ρ : Rho} {n : Nat} {env env' : List D} {v : Value} {sv : SV} (h : SRd w ρ env v sv) (he : ∀ k, k < n → env[k]? = env'[k]?) (hb : sv.upto n = true) : SRd w ρ env' v sv := by
  induction h with
  | junk => exact .junk
  | e hx h h1 => exact .e ((E.eval_upto he (by simpa [SV.upto] using hb)) ▸ hx) h h1
  | agg hl ho _ ih => exact .agg hl ho fun i v c hv hc => ih i v c hv hc (SV.uptoAll_get (by simpa [SV.upto] using hb) hc)
  | tup hl _ ih => exact .tup hl fun i v c hv hc => ih i v c hv hc (SV.uptoAll_get (by simpa [SV.upto] using hb) hc)
  | addr => exact .addr
  | eaddr hx => exact .eaddr ((E.eval_upto he (by simpa [SV.upto] using hb)) ▸ hx)
  | iptr hx h => exact .iptr ((E.eval_upto he (by simpa [SV.upto] using hb)) ▸ hx) h
  | own hx h hv => exact .own ((E.eval_upto he (by simpa [SV.upto] using hb)) ▸ hx) h hv
  | slc => exact .slc
  | func hl _ ih => exact .func hl fun i v c hv hc => ih i v c hv hc (SV.uptoAll_get (by simpa [SV.upto] using hb) hc)
  | @cond v act sv hd _ hn ih =>
    simp only [SV.upto, Bool.and_eq_true, List.all_eq_true] at hb
    have hev : ∀ p, p ∈ act → p.1.eval env = p.1.eval env' := fun p hp => E.eval_upto he (hb.1 p hp)
    have hact : actHolds env act ↔ actHolds env' act := ⟨fun h p hp => (hev p hp) ▸ h p hp, fun h p hp => (hev p hp).symm ▸ h p hp⟩
    exact .cond (fun p hp => let ⟨d, h⟩ := hd p hp; ⟨d, (hev p hp) ▸ h⟩) (fun ha => ih (hact.2 ha) hb.2) fun ha => hn fun h => ha (hact.1 h)

/-- is it the next new name? -/
def isPhi (base n : Nat) : E → Bool
  | .sym k => decide (k = base + n)
  | _ => false

mutual
/-- 'sv' fits the pattern 't', in which the names from 'base' on are new; what they stand for is put behind 'acc'. -/
def matchSV (base : Nat) : SV → SV → List E → Option (List E)
  | .junk, _, acc => some acc
  | .e x s, sv, acc =>
    if isPhi base acc.length x then (match s, sv with
      | true, .e y true => some (acc ++ [y])
      | true, .own y _ => some (acc ++ [y])
      | false, sv => sv.toE.map fun y => acc ++ [y]
      | _, _ => none)
    else if (SV.e x s).same sv && x.upto base then some acc else none
  | .own x k, sv, acc =>
    if isPhi base acc.length x then (match sv with
      | .own y k' => if k = k' then some (acc ++ [y]) else none
      | _ => none)
    else if (SV.own x k).same sv && x.upto base then some acc else none
  | .agg ts, sv, acc => match sv with
    | .agg cs => matchSVs base ts cs acc
    | _ => none
  | .tup ts, sv, acc => if (SV.tup ts).same sv && SV.uptoAll base ts then some acc else none
  | .addr o f, sv, acc => if (SV.addr o f).same sv then some acc else none
  | .eaddr o x s f, sv, acc => if (SV.eaddr o x s f).same sv && x.upto base then some acc else none
  | .iptr x f, sv, acc => if (SV.iptr x f).same sv && x.upto base then some acc else none
  | .slc o, sv, acc => if (SV.slc o).same sv then some acc else none
  | .func fn ts, sv, acc => if (SV.func fn ts).same sv && SV.uptoAll base ts then some acc else none
  | .cond _ _, _, _ => none
def matchSVs (base : Nat) : List SV → List SV → List E → Option (List E)
  | [], [], acc => some acc
  | t :: ts, s :: ss, acc => (matchSV base t s acc).bind fun acc => matchSVs base ts ss acc
  | _, _, _ => none
end

def matchObj (base : Nat) : SObj → SObj → List E → Option (List E)
  | .box ts, .box cs, acc => matchSVs base ts cs acc
  | .row x sz, .row y sz', acc => if sz = sz' then (if isPhi base acc.length x then some (acc ++ [y]) else if x.same y && x.upto base then some acc else none) else none
  | .tok e sz, .tok e' sz', acc => if e = e' ∧ sz = sz' then some acc else none
  | .store cf x, .store cf' y, acc => if cf = cf' then (if isPhi base acc.length x then some (acc ++ [y]) else if x.same y && x.upto base then some acc else none) else none
  | _, _, _ => none

def matchMem (base : Nat) : List (Option SObj) → List (Option SObj) → List E → Option (List E)
  | [], [], acc => some acc
  | none :: ts, _ :: ss, acc => matchMem base ts ss acc
  | some t :: ts, some s :: ss, acc => (matchObj base t s acc).bind fun acc => matchMem base ts ss acc
  | _, _, _ => none

def matchH (base : Nat) : Option SObj → Option SObj → List E → Option (List E)
  | none, _, acc => some acc
  | some t, some s, acc => matchObj base t s acc
  | _, _, _ => none

def matchS (base : Nat) (tm σ : SState) : Option (List E) := if HID < tm.mem.length then none else
  (matchSVs base tm.tmps σ.tmps []).bind fun acc => (matchMem base tm.mem σ.mem acc).bind fun acc => matchH base tm.hs σ.hs acc

section
variable {w w0 : World} {X : Ent} {a : Act} {env : List D} {ρ : Rho}

theorem evalAll_append : ∀ {l m : List E} {ds : List D}, evalAll env (l ++ m) = some ds → ∃ d1 d2, evalAll env l = some d1 ∧ evalAll env m = some d2 ∧ ds = d1 ++ d2
  | [], m, ds, h => ⟨[], ds, rfl, h, rfl⟩
  | x :: r, m, ds, h => by
    simp only [List.cons_append, evalAll, Option.bind_eq_some_iff, Option.map_eq_some_iff] at h
    obtain ⟨d, h1, ds', h2, rfl⟩ := h
    obtain ⟨d1, d2, h3, h4, rfl⟩ := evalAll_append h2
    exact ⟨d :: d1, d2, by simp [evalAll, h1, h3], h4, rfl⟩

theorem evalAll_length : ∀ {l : List E} {ds : List D}, evalAll env l = some ds → ds.length = l.length
  | [], ds, h => by simp [evalAll] at h; simp [← h]
  | x :: r, ds, h => by
    simp only [evalAll, Option.bind_eq_some_iff, Option.map_eq_some_iff] at h
    obtain ⟨d, _, ds', h2, rfl⟩ := h
    simp [evalAll_length h2]

/-- the environment behind a meeting of ways -/
abbrev cutEnv (env : List D) (base : Nat) (ds : List D) : List D := env.take base ++ ds

theorem cutEnv_old {base : Nat} {ds : List D} (hb : base ≤ env.length) : ∀ k, k < base → env[k]? = (cutEnv env base ds)[k]? := by
  intro k hk
  rw [List.getElem?_append_left (by simp; omega), List.getElem?_take, if_pos hk]

/-- what a new name stands for -/
theorem phi_eval {base : Nat} {acc accF : List E} {y x : E} {ds : List D} (hb : base ≤ env.length) (hx : isPhi base acc.length x = true) (hp : acc ++ [y] <+: accF) (hd : evalAll env accF = some ds) : x.eval (cutEnv env base ds) = y.eval env := by
  obtain ⟨r, rfl⟩ := hp
  obtain ⟨d1, d2, h1, _, rfl⟩ := evalAll_append hd
  obtain ⟨d3, d4, h3, h4, rfl⟩ := evalAll_append h1
  simp only [evalAll, Option.bind_eq_some_iff, Option.map_some, Option.some.injEq] at h4
  obtain ⟨d, hy, rfl⟩ := h4
  unfold isPhi at hx
  split at hx
  · simp only [decide_eq_true_eq] at hx
    subst hx
    have hl := evalAll_length h3
    simp only [E.eval, cutEnv, hy]
    rw [List.getElem?_append_right (by simp; omega)]
    simp only [List.length_take, Nat.min_eq_left hb, Nat.add_sub_cancel_left, List.append_assoc]
    rw [← hl]
    simp
  · cases hx

theorem prefix_append' {α : Type} (a b : List α) : a <+: a ++ b := ⟨b, rfl⟩

mutual
theorem matchSV_pre {base : Nat} : ∀ {t sv : SV} {acc acc' : List E}, matchSV base t sv acc = some acc' → acc <+: acc'
  | .junk, sv, acc, acc', h => by simp [matchSV] at h; subst h; exact ⟨[], by simp⟩
  | .e x s, sv, acc, acc', h => by
    simp only [matchSV] at h
    split at h
    · split at h
      · cases h; exact prefix_append' _ _
      · cases h; exact prefix_append' _ _
      · obtain ⟨y, _, rfl⟩ := Option.map_eq_some_iff.1 h; exact prefix_append' _ _
      · cases h
    · split at h
      · cases h; exact ⟨[], by simp⟩
      · cases h
  | .own x k, sv, acc, acc', h => by
    simp only [matchSV] at h
    split at h
    · split at h
      · split at h
        · cases h; exact prefix_append' _ _
        · cases h
      · cases h
    · split at h
      · cases h; exact ⟨[], by simp⟩
      · cases h
  | .agg ts, sv, acc, acc', h => by
    simp only [matchSV] at h
    split at h
    · exact matchSVs_pre h
    · cases h
  | .tup ts, sv, acc, acc', h | .addr _ _, sv, acc, acc', h | .eaddr _ _ _ _, sv, acc, acc', h | .iptr _ _, sv, acc, acc', h | .slc _, sv, acc, acc', h | .func _ _, sv, acc, acc', h => by
    simp only [matchSV] at h
    split at h
    · cases h; exact ⟨[], by simp⟩
    · cases h
  | .cond _ _, sv, acc, acc', h => by simp [matchSV] at h
theorem matchSVs_pre {base : Nat} : ∀ {ts ss : List SV} {acc acc' : List E}, matchSVs base ts ss acc = some acc' → acc <+: acc'
  | [], [], acc, acc', h => by simp [matchSVs] at h; subst h; exact ⟨[], by simp⟩
  | t :: ts, s :: ss, acc, acc', h => by
    simp only [matchSVs, Option.bind_eq_some_iff] at h
    obtain ⟨acc1, h1, h2⟩ := h
    exact (matchSV_pre h1).trans (matchSVs_pre h2)
  | [], _ :: _, _, _, h | _ :: _, [], _, _, h => by simp [matchSVs] at h
end


theorem SRd.same_rd {base : Nat} {ds : List D} {t sv : SV} {v : Value} (hb : base ≤ env.length) (h : t.same sv = true) (hu : t.upto base = true) (hr : SRd w ρ env v sv) : SRd w ρ (cutEnv env base ds) v t := by
  have e := SV.same_eq h
  subst e
  exact hr.cut (cutEnv_old hb) hu

mutual
theorem matchSV_rd {base : Nat} {accF : List E} {ds : List D} (hb : base ≤ env.length) (hd : evalAll env accF = some ds) : ∀ {t sv : SV} {acc acc' : List E} {v : Value}, matchSV base t sv acc = some acc' → acc' <+: accF → SRd w ρ env v sv → SRd w ρ (cutEnv env base ds) v t
  | .junk, sv, acc, acc', v, h, hp, hr => .junk
  | .e x s, sv, acc, acc', v, h, hp, hr => by
    simp only [matchSV] at h
    split at h
    · rename_i hx
      split at h
      · cases h
        obtain ⟨d, hd', hrd, h1⟩ := hr.e_inv
        exact .e ((phi_eval hb hx hp hd).trans hd') hrd h1
      · cases h
        obtain ⟨es, hd', hrd, _⟩ := hr.own_inv
        exact .e ((phi_eval hb hx hp hd).trans hd') hrd fun _ => rfl
      · obtain ⟨y, hy, rfl⟩ := Option.map_eq_some_iff.1 h
        obtain ⟨d, hd', hrd⟩ := SV.toE_rd hy hr
        exact .e ((phi_eval hb hx hp hd).trans hd') hrd (by simp)
      · cases h
    · split at h
      · rename_i hc
        simp only [Bool.and_eq_true] at hc
        exact hr.same_rd hb hc.1 (by simpa [SV.upto] using hc.2)
      · cases h
  | .own x k, sv, acc, acc', v, h, hp, hr => by
    simp only [matchSV] at h
    split at h
    · rename_i hx
      split at h
      · split at h
        · rename_i hk
          cases h
          subst hk
          obtain ⟨es, hd', hrd, h1⟩ := hr.own_inv
          exact .own ((phi_eval hb hx hp hd).trans hd') hrd h1
        · cases h
      · cases h
    · split at h
      · rename_i hc
        simp only [Bool.and_eq_true] at hc
        exact hr.same_rd hb hc.1 (by simpa [SV.upto] using hc.2)
      · cases h
  | .agg ts, sv, acc, acc', v, h, hp, hr => by
    simp only [matchSV] at h
    split at h
    · obtain ⟨vs, rfl, hl, ho, hh⟩ := hr.agg_inv
      obtain ⟨hlen, hall⟩ := matchSVs_rd (vs := vs.toList) hb hd h hp (by simpa using hl) (fun i v c hv hc => hh i v c (by simpa using hv) hc)
      exact .agg (by rw [hl, hlen]) ho fun i v c hv hc => hall i v c (by simpa using hv) hc
    · cases h
  | .tup ts, sv, acc, acc', v, h, hp, hr => by
    simp only [matchSV] at h
    split at h
    · rename_i hc
      simp only [Bool.and_eq_true] at hc
      exact hr.same_rd hb hc.1 (by simpa [SV.upto] using hc.2)
    · cases h
  | .addr o f, sv, acc, acc', v, h, hp, hr => by
    simp only [matchSV] at h
    split at h
    · rename_i hc
      exact hr.same_rd hb hc (by simp [SV.upto])
    · cases h
  | .eaddr o x s f, sv, acc, acc', v, h, hp, hr => by
    simp only [matchSV] at h
    split at h
    · rename_i hc
      simp only [Bool.and_eq_true] at hc
      exact hr.same_rd hb hc.1 (by simpa [SV.upto] using hc.2)
    · cases h
  | .iptr x f, sv, acc, acc', v, h, hp, hr => by
    simp only [matchSV] at h
    split at h
    · rename_i hc
      simp only [Bool.and_eq_true] at hc
      exact hr.same_rd hb hc.1 (by simpa [SV.upto] using hc.2)
    · cases h
  | .slc o, sv, acc, acc', v, h, hp, hr => by
    simp only [matchSV] at h
    split at h
    · rename_i hc
      exact hr.same_rd hb hc (by simp [SV.upto])
    · cases h
  | .func fn ts, sv, acc, acc', v, h, hp, hr => by
    simp only [matchSV] at h
    split at h
    · rename_i hc
      simp only [Bool.and_eq_true] at hc
      exact hr.same_rd hb hc.1 (by simpa [SV.upto] using hc.2)
    · cases h
  | .cond _ _, sv, acc, acc', v, h, hp, hr => by simp [matchSV] at h
theorem matchSVs_rd {base : Nat} {accF : List E} {ds : List D} (hb : base ≤ env.length) (hd : evalAll env accF = some ds) : ∀ {ts ss : List SV} {acc acc' : List E} {vs : List Value}, matchSVs base ts ss acc = some acc' → acc' <+: accF → vs.length = ss.length →
    (∀ (i : Nat) (v : Value) (c : SV), vs[i]? = some v → ss[i]? = some c → SRd w ρ env v c) → ss.length = ts.length ∧ ∀ (i : Nat) (v : Value) (c : SV), vs[i]? = some v → ts[i]? = some c → SRd w ρ (cutEnv env base ds) v c
  | [], [], acc, acc', vs, h, hp, hl, hh => ⟨rfl, by simp⟩
  | t :: ts, s :: ss, acc, acc', vs, h, hp, hl, hh => by
    match vs, hl with
    | v :: vs, hl =>
      simp only [matchSVs, Option.bind_eq_some_iff] at h
      obtain ⟨acc1, h1, h2⟩ := h
      have hr := matchSV_rd hb hd h1 ((matchSVs_pre h2).trans hp) (hh 0 v s rfl rfl)
      obtain ⟨hlen, hall⟩ := matchSVs_rd (vs := vs) hb hd h2 hp (by simpa using hl) (fun i v c hv hc => hh (i + 1) v c (by simpa using hv) (by simpa using hc))
      refine ⟨by simp [hlen], fun i v' c hv hc => ?_⟩
      cases i with
      | zero => simp at hv hc; subst hv hc; exact hr
      | succ i => exact hall i v' c (by simpa using hv) (by simpa using hc)
  | [], _ :: _, _, _, _, h, _, _, _ | _ :: _, [], _, _, _, h, _, _, _ => by simp [matchSVs] at h
end

theorem matchObj_pre {base : Nat} {t s : SObj} {acc acc1 : List E} (h1 : matchObj base t s acc = some acc1) : acc <+: acc1 := by
  unfold matchObj at h1
  split at h1
  · exact matchSVs_pre h1
  · split at h1
    · split at h1
      · cases h1; exact prefix_append' _ _
      · split at h1
        · cases h1; exact ⟨[], by simp⟩
        · cases h1
    · cases h1
  · split at h1
    · cases h1; exact ⟨[], by simp⟩
    · cases h1
  · split at h1
    · split at h1
      · cases h1; exact prefix_append' _ _
      · split at h1
        · cases h1; exact ⟨[], by simp⟩
        · cases h1
    · cases h1
  · cases h1

theorem matchH_pre {base : Nat} {t s : Option SObj} {acc acc1 : List E} (h1 : matchH base t s acc = some acc1) : acc <+: acc1 := by
  unfold matchH at h1
  split at h1
  · cases h1; exact ⟨[], by simp⟩
  · exact matchObj_pre h1
  · cases h1

theorem matchMem_pre {base : Nat} : ∀ {ts ss : List (Option SObj)} {acc acc' : List E}, matchMem base ts ss acc = some acc' → acc <+: acc'
  | [], [], acc, acc', h => by simp [matchMem] at h; subst h; exact ⟨[], by simp⟩
  | none :: ts, _ :: ss, acc, acc', h => by simp only [matchMem] at h; exact matchMem_pre h
  | some t :: ts, some s :: ss, acc, acc', h => by
    simp only [matchMem, Option.bind_eq_some_iff] at h
    obtain ⟨acc1, h1, h2⟩ := h
    exact List.IsPrefix.trans (matchObj_pre h1) (matchMem_pre h2)
  | some _ :: _, none :: _, _, _, h | [], _ :: _, _, _, h | some _ :: _, [], _, _, h | none :: _, [], _, _, h => by simp [matchMem] at h

theorem matchObj_ok {base o : Nat} {accF : List E} {ds : List D} (hb : base ≤ env.length) (hd : evalAll env accF = some ds) {t s : SObj} {acc acc' : List E} (h : matchObj base t s acc = some acc') (hp : acc' <+: accF) (hok : ObjOk w ρ env o s) :
    ObjOk w ρ (cutEnv env base ds) o t ∧ objBlk ρ o t = objBlk ρ o s ∧ t.ro = s.ro := by
  unfold matchObj at h
  split at h
  · obtain ⟨vs, ty, h1, h2, h3, h4, h5⟩ := hok
    obtain ⟨hlen, hall⟩ := matchSVs_rd (w := w) (ρ := ρ) (vs := vs.toList) hb hd h hp (by simpa using h2) (fun i v c hv hc => h4 i v c (by simpa using hv) hc)
    exact ⟨⟨vs, ty, h1, by omega, h3, fun i v c hv hc => hall i v c (by simpa using hv) hc, h5⟩, rfl, rfl⟩
  · obtain ⟨vs, ty, es, h1, h2, h3⟩ := hok
    split at h
    · rename_i hsz
      subst hsz
      split at h
      · rename_i hx
        cases h
        exact ⟨⟨vs, ty, es, h1, (phi_eval hb hx hp hd).trans h2, h3⟩, rfl, rfl⟩
      · split at h
        · rename_i hc
          simp only [Bool.and_eq_true] at hc
          cases h
          have e := E.same_eq hc.1
          subst e
          exact ⟨⟨vs, ty, es, h1, (E.eval_upto (cutEnv_old hb) hc.2) ▸ h2, h3⟩, rfl, rfl⟩
        · cases h
    · cases h
  · split at h
    · rename_i hc
      obtain ⟨rfl, rfl⟩ := hc
      exact ⟨hok, rfl, rfl⟩
    · cases h
  · obtain ⟨bs, h2, h3⟩ := hok
    split at h
    · rename_i hsz
      subst hsz
      split at h
      · rename_i hx
        cases h
        exact ⟨⟨bs, (phi_eval hb hx hp hd).trans h2, h3⟩, rfl, rfl⟩
      · split at h
        · rename_i hc
          simp only [Bool.and_eq_true] at hc
          cases h
          have e := E.same_eq hc.1
          subst e
          exact ⟨⟨bs, (E.eval_upto (cutEnv_old hb) hc.2) ▸ h2, h3⟩, rfl, rfl⟩
        · cases h
    · cases h
  · cases h

theorem matchMem_rd {base : Nat} {accF : List E} {ds : List D} (hb : base ≤ env.length) (hd : evalAll env accF = some ds) : ∀ {ts ss : List (Option SObj)} {acc acc' : List E} {k : Nat}, matchMem base ts ss acc = some acc' → acc' <+: accF →
    (∀ i s, ss[i]? = some (some s) → ObjOk w ρ env (k + i) s) → ss.length = ts.length ∧ ∀ i t, ts[i]? = some (some t) → ∃ s, ss[i]? = some (some s) ∧ ObjOk w ρ (cutEnv env base ds) (k + i) t ∧ objBlk ρ (k + i) t = objBlk ρ (k + i) s ∧ t.ro = s.ro
  | [], [], acc, acc', k, h, hp, hok => ⟨rfl, by simp⟩
  | none :: ts, s :: ss, acc, acc', k, h, hp, hok => by
    simp only [matchMem] at h
    obtain ⟨hl, hall⟩ := matchMem_rd (k := k + 1) hb hd h hp fun i s' hs => by
      have := hok (i + 1) s' (by simpa using hs)
      rwa [show k + (i + 1) = k + 1 + i from by omega] at this
    refine ⟨by simp [hl], fun i t ht => ?_⟩
    cases i with
    | zero => simp at ht
    | succ i =>
      obtain ⟨s', h1, h2⟩ := hall i t (by simpa using ht)
      rw [show k + (i + 1) = k + 1 + i from by omega]
      exact ⟨s', by simpa using h1, h2⟩
  | some t :: ts, some s :: ss, acc, acc', k, h, hp, hok => by
    simp only [matchMem, Option.bind_eq_some_iff] at h
    obtain ⟨acc1, h1, h2⟩ := h
    have h0 := matchObj_ok (w := w) (ρ := ρ) (o := k) hb hd h1 ((matchMem_pre h2).trans hp) (by simpa using hok 0 s rfl)
    obtain ⟨hl, hall⟩ := matchMem_rd (k := k + 1) hb hd h2 hp fun i s' hs => by
      have := hok (i + 1) s' (by simpa using hs)
      rwa [show k + (i + 1) = k + 1 + i from by omega] at this
    refine ⟨by simp [hl], fun i t' ht => ?_⟩
    cases i with
    | zero => simp at ht; subst ht; exact ⟨s, rfl, h0⟩
    | succ i =>
      obtain ⟨s', h3, h4⟩ := hall i t' (by simpa using ht)
      rw [show k + (i + 1) = k + 1 + i from by omega]
      exact ⟨s', by simpa using h3, h4⟩
  | some _ :: _, none :: _, _, _, _, h, _, _ | [], _ :: _, _, _, _, h, _, _ | some _ :: _, [], _, _, _, h, _, _ | none :: _, [], _, _, _, h, _, _ => by simp [matchMem] at h

/-- What fits the one state fits the more general one. -/
theorem matchS_rep {base : Nat} {tm σ : SState} {args : List E} {ds : List D} (h : Rep w0 X w a σ env ρ) (hb : base ≤ env.length) (hm : matchS base tm σ = some args) (hd : evalAll env args = some ds) : Rep w0 X w a tm (cutEnv env base ds) ρ ∧ σ.tmps.length = tm.tmps.length ∧ σ.mem.length = tm.mem.length := by
  unfold matchS at hm
  split at hm
  · cases hm
  rename_i hlen
  simp only [Option.bind_eq_some_iff] at hm
  obtain ⟨acc, h1, acc2, h2, h2'⟩ := hm
  have hsz := h.size
  obtain ⟨hl1, hall1⟩ := matchSVs_rd (w := w) (ρ := ρ) (vs := a.tmps.toList) hb hd h1 ((matchMem_pre h2).trans (matchH_pre h2')) (by simpa using hsz) (fun i v c hv hc => by
    have := h.tmps i
    rw [show σ.tmp i = c by simp [SState.tmp, hc]] at this
    rwa [show a.tmps.getD i undef = v by simpa using congrArg (·.getD undef) hv] at this)
  have hmlen : σ.mem.length = tm.mem.length := by
    have go : ∀ {ts ss : List (Option SObj)} {acc acc' : List E}, matchMem base ts ss acc = some acc' → ss.length = ts.length := by
      intro ts
      induction ts with
      | nil => intro ss acc acc' h; cases ss with | nil => rfl | cons _ _ => simp [matchMem] at h
      | cons t ts ih =>
        intro ss acc acc' h
        cases ss with
        | nil => cases t <;> simp [matchMem] at h
        | cons s ss =>
          cases t with
          | none => simp only [matchMem] at h; simp [ih h]
          | some t =>
            cases s with
            | none => simp [matchMem] at h
            | some s =>
              simp only [matchMem, Option.bind_eq_some_iff] at h
              obtain ⟨_, _, h⟩ := h
              simp [ih h]
    exact go h2
  obtain ⟨hl2, hall2⟩ := matchMem_rd (w := w) (ρ := ρ) (k := 0) hb hd h2 (matchH_pre h2') (fun i s hs => by
    rw [Nat.zero_add]
    have hi := (List.getElem?_eq_some_iff.1 hs).1
    refine h.objs i s ?_
    unfold SState.obj
    rw [if_neg (by omega)]
    simp [hs])
  have hobj : ∀ o x, tm.obj o = some x → ∃ s, σ.obj o = some s ∧ ObjOk w ρ (cutEnv env base ds) o x ∧ objBlk ρ o x = objBlk ρ o s ∧ x.ro = s.ro := by
    intro o x hx
    unfold SState.obj at hx
    split at hx
    · rename_i ho
      subst ho
      rw [hx] at h2'
      unfold matchH at h2'
      split at h2'
      · rename_i e; cases e
      · rename_i t s e hs
        cases e
        have hso : σ.obj HID = some s := by unfold SState.obj; rw [if_pos rfl]; exact hs
        exact ⟨s, hso, matchObj_ok hb hd h2' ⟨[], by simp⟩ (h.objs HID s hso)⟩
      · cases h2'
    · rename_i ho
      have hx' : tm.mem[o]? = some (some x) := by
        simp only [List.getD_eq_getElem?_getD] at hx
        cases hto : tm.mem[o]? with
        | none => rw [hto] at hx; cases hx
        | some y => rw [hto] at hx; simp at hx; rw [hx]
      obtain ⟨s, h3, h4, h5⟩ := hall2 o x hx'
      rw [Nat.zero_add] at h4 h5
      refine ⟨s, ?_, h4, h5⟩
      unfold SState.obj
      rw [if_neg ho]
      simp [h3]
  refine ⟨⟨by omega, fun t => ?_, fun o x hx => (hobj o x hx).choose_spec.2.1, ?_, ?_, h.cells, h.os, h.tape, h.output, h.grown, h.old, h.sub, h.new, h.nod, h.hold⟩, hl1, hl2⟩
  · unfold SState.tmp
    rw [List.getD_eq_getElem?_getD]
    cases ht : tm.tmps[t]? with
    | none => exact .junk
    | some c =>
      have htl : t < a.tmps.size := by have := (List.getElem?_eq_some_iff.1 ht).1; omega
      refine hall1 t _ c ?_ ht
      simp only [Array.getElem?_toList]
      exact getD_of_lt htl
  · intro o o' x x' b h3 h4 h5 h6
    obtain ⟨s, hs, _, e, _⟩ := hobj o x h3
    obtain ⟨s', hs', _, e', _⟩ := hobj o' x' h4
    exact h.inj o o' s s' b hs hs' (e ▸ h5) (e' ▸ h6)
  · intro o x b h3 h4
    obtain ⟨s, hs, _, e, er⟩ := hobj o x h3
    rw [er]
    exact h.own o s b hs (e ▸ h4)

end
end Go.Am
