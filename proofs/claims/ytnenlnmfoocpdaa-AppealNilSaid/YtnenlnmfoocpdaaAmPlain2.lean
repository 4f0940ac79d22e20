/-
  More steps for proofs about texts: chains of conditions, loops over a range, the store.
-/
import Derived.Test.YtnenlnmfoocpdaaAmPlain
set_option linter.unusedSimpArgs false
set_option linter.unusedVariables false
namespace Go.Am

/-! ## chains -/

/-- the conditions that chains hang on, compared -/
def E.beqG : E → E → Bool
  | .sym i, .sym j => i == j
  | .tget i a, .tget j b => i == j && a.beqG b
  | .cell i a, .cell j b => i == j && a.beqG b
  | _, _ => false

theorem E.beqG_eq : ∀ {a b : E}, a.beqG b = true → a = b
  | .sym i, b, h => by cases b <;> simp [E.beqG] at h; rw [h]
  | .tget i a, b, h => by
    cases b <;> simp [E.beqG] at h
    rw [h.1, E.beqG_eq h.2]
  | .cell i a, b, h => by
    cases b <;> simp [E.beqG] at h
    rw [h.1, E.beqG_eq h.2]
  | .const _, b, h | .nil, b, h | .tnil, b, h | .un _ _, b, h | .conv _ _, b, h | .lenL _, b, h | .lenS _, b, h | .scal _, b, h | .cells _ _ _, b, h | .aggN _ _, b, h | .one _, b, h | .mkptr _, b, h | .rep _ _ _, b, h | .deref _, b, h | .ifc _ _, b, h | .padd _ _, b, h | .nn _, b, h | .fstid _, b, h
  | .bin _ _ _ _, b, h | .idx _ _, b, h | .idxN _ _ _, b, h | .cons _ _, b, h | .app _ _ _ _, b, h | .lcons _ _, b, h | .mkfn _ _ _, b, h | .tcons _ _, b, h | .mm _ _ _, b, h | .eaddr _ _ _, b, h | .ld _ _ _ _, b, h | .newb _ _ _ _, b, h | .newv _ _ _ _, b, h | .fstsl _ _, b, h | .frzv _ _ _, b, h | .frzh _ _, b, h | .guard _ _ _, b, h
  | .sub _ _ _ _, b, h | .set _ _ _ _, b, h | .ite _ _ _, b, h | .sto _ _ _ _, b, h | .apph _ _ _ _ _ _, b, h | .apps _ _ _, b, h | .m4 _ _ _ _ _, b, h => by cases b <;> simp [E.beqG] at h

/-- is a condition one of the data, the n-th at most? -/
def symLt (n : Nat) : List (E × Bool) → Bool
  | [] => true
  | (.sym k, _) :: r => decide (k < n) && symLt n r
  | _ :: _ => false

/-- a bind without the condition (g, w) -/
def stripB (n : Nat) (g : E) (w : Bool) : Bind → Option Bind
  | .ev (.guard g' w' x) => if g.beqG g' = true ∧ w = w' then some (.ev x) else none
  | .call ((g', w') :: act) f h args rs => if g.beqG g' = true ∧ w = w' ∧ symLt n act = true then some (.call act f h args rs) else none
  | .callv ((g', w') :: act) x h args rs => if g.beqG g' = true ∧ w = w' ∧ symLt n act = true then some (.callv act x h args rs) else none
  | _ => none

/-- the binds that hang on (g, w), without it; the others -/
def takeG (g : E) (w : Bool) : Nat → List Bind → List Bind × Nat × List Bind
  | _, [] => ([], 0, [])
  | n, b :: bs => match stripB n g w b with
    | some b' => let r := takeG g w (n + 1) bs; (b' :: r.1, r.2.1 + 1, r.2.2)
    | none => ([], 0, b :: bs)

def headG : List Bind → Option (E × Bool)
  | .ev (.guard g w _) :: _ => some (g, w)
  | .call ((g, w) :: _) _ _ _ _ :: _ => some (g, w)
  | .callv ((g, w) :: _) _ _ _ _ :: _ => some (g, w)
  | _ => none

/-- a chain: its condition, its binds without it, their number, the choice behind it, the rest -/
def splitG (n : Nat) (bs : List Bind) : Option (E × Bool × List Bind × Nat × E × E × List Bind) :=
  match headG bs with
  | some (g, w) => match takeG g w n bs with
    | (bs', k, .ev (.ite g' y z) :: rest) => if g.beqG g' = true then some (g, w, bs', k, y, z, rest) else none
    | _ => none
  | none => none

/-- for all lists of length n -/
def allN : Nat → (List D → Prop) → Prop
  | 0, K => K []
  | n + 1, K => ∀ u : D, allN n fun us => K (u :: us)

theorem allN_zero {K : List D → Prop} (h : K []) : allN 0 K := h
theorem allN_succ {n : Nat} {K : List D → Prop} (h : ∀ u : D, allN n fun us => K (u :: us)) : allN (n + 1) K := h

theorem allN_get : ∀ {n : Nat} {K : List D → Prop} (_ : allN n K) {us : List D}, us.length = n → K us
  | 0, K, h, [], _ => h
  | n + 1, K, h, u :: us, hl => allN_get (h u) (by simpa using hl)

section
variable {P : Program} {env : List D} {g : E} {w p : Bool}

theorem stripB_pos {b b' : Bind} (hs : stripB env.length g w b = some b') (hg : g.eval env = some (.v (.bool w))) {t : T} {Q : Sig → Prop} (h : den P (.bind b' t) env Q) : den P (.bind b t) env Q := by
  unfold stripB at hs
  split at hs
  · split at hs
    · rename_i hc
      cases hs
      rw [← E.beqG_eq hc.1, ← hc.2]
      obtain ⟨d, h1, h2⟩ := h
      exact ⟨d, by simp only [E.eval, hg, if_true]; exact h1, h2⟩
    · cases hs
  · split at hs
    · rename_i hc
      cases hs
      obtain ⟨h0, d, h1, h2⟩ := h
      refine ⟨fun q hq => ?_, d, fun ha => h1 fun q hq => ha q (by simp [hq]), h2⟩
      rcases List.mem_cons.1 hq with rfl | hq
      · exact ⟨_, by rw [← E.beqG_eq hc.1]; exact hg⟩
      · exact h0 q hq
    · cases hs
  · split at hs
    · rename_i hc
      cases hs
      obtain ⟨h0, d, h1, h2⟩ := h
      refine ⟨fun q hq => ?_, d, fun ha => h1 fun q hq => ha q (by simp [hq]), h2⟩
      rcases List.mem_cons.1 hq with rfl | hq
      · exact ⟨_, by rw [← E.beqG_eq hc.1]; exact hg⟩
      · exact h0 q hq
    · cases hs
  · cases hs

theorem symLt_ok : ∀ {act : List (E × Bool)}, symLt env.length act = true → ∀ q, q ∈ act → ∃ d, q.1.eval env = some d
  | [], _, q, hq => by cases hq
  | (x, b) :: r, h, q, hq => by
    cases x <;> simp only [symLt, Bool.and_eq_true, decide_eq_true_eq] at h
    case sym k =>
      rcases List.mem_cons.1 hq with rfl | hq
      · exact ⟨_, List.getElem?_eq_getElem h.1⟩
      · exact symLt_ok h.2 q hq
    all_goals cases h

theorem stripB_neg {b b' : Bind} (hs : stripB env.length g w b = some b') (hg : g.eval env = some (.v (.bool p))) (hp : p ≠ w) {t : T} {Q : Sig → Prop} (h : den P t (env ++ [D.undef]) Q) : den P (.bind b t) env Q := by
  have hno : ∀ {act : List (E × Bool)} {g' : E} {w' : Bool}, g.beqG g' = true ∧ w = w' ∧ symLt env.length act = true → ¬ actHolds env ((g', w') :: act) := by
    intro act g' w' hc ha
    have := ha (g', w') (by simp)
    rw [← E.beqG_eq hc.1, ← hc.2.1, hg] at this
    cases this
    exact hp rfl
  have hdef : ∀ {act : List (E × Bool)} {g' : E} {w' : Bool}, g.beqG g' = true ∧ w = w' ∧ symLt env.length act = true → ∀ q, q ∈ (g', w') :: act → ∃ d, q.1.eval env = some d := by
    intro act g' w' hc q hq
    rcases List.mem_cons.1 hq with rfl | hq
    · exact ⟨_, by rw [← E.beqG_eq hc.1]; exact hg⟩
    · exact symLt_ok hc.2.2 q hq
  unfold stripB at hs
  split at hs
  · split at hs
    · rename_i hc
      rw [← E.beqG_eq hc.1, ← hc.2]
      exact ⟨_, by simp only [E.eval, hg, if_neg hp], h⟩
    · cases hs
  · split at hs
    · rename_i hc
      exact ⟨hdef hc, D.undef, fun ha => absurd ha (hno hc), h⟩
    · cases hs
  · split at hs
    · rename_i hc
      exact ⟨hdef hc, D.undef, fun ha => absurd ha (hno hc), h⟩
    · cases hs
  · cases hs

/-- what a bind binds, it binds whatever comes after it -/
theorem bind_any {b : Bind} {t : T} {Q : Sig → Prop} (h : den P (.bind b t) env Q) : ∃ d, den P t (env ++ [d]) Q ∧ ∀ (t' : T) (Q' : Sig → Prop), den P t' (env ++ [d]) Q' → den P (.bind b t') env Q' := by
  cases b with
  | ev x => obtain ⟨d, h1, h2⟩ := h; exact ⟨d, h2, fun t' Q' h' => ⟨d, h1, h'⟩⟩
  | call act f hx args rs => obtain ⟨h0, d, h1, h2⟩ := h; exact ⟨d, h2, fun t' Q' h' => ⟨h0, d, h1, h'⟩⟩
  | wcall act f hx args rs => obtain ⟨h0, st, d, h', h1, h2, h3, h4⟩ := h; exact ⟨_, h4, fun t' Q' k => ⟨h0, st, d, h', h1, h2, h3, k⟩⟩
  | callv act x hx args rs => obtain ⟨h0, d, h1, h2⟩ := h; exact ⟨d, h2, fun t' Q' h' => ⟨h0, d, h1, h'⟩⟩
  | wcallv act x hx args rs => obtain ⟨h0, st, d, h', h1, h2, h3, h4⟩ := h; exact ⟨_, h4, fun t' Q' k => ⟨h0, st, d, h', h1, h2, h3, k⟩⟩

theorem takeG_pos : ∀ {bs : List Bind} {env : List D} {x : E} {dx : D}, g.eval env = some (.v (.bool w)) → den P (wrapBinds (takeG g w env.length bs).1 (.ret x)) env (fun s => s = .ret dx) →
    ∃ us : List D, us.length = (takeG g w env.length bs).2.1 ∧ x.eval (env ++ us) = some dx ∧ ∀ (t : T) (Q : Sig → Prop), den P (wrapBinds (takeG g w env.length bs).2.2 t) (env ++ us) Q → den P (wrapBinds bs t) env Q
  | [], env, x, dx, hg, h => by
    obtain ⟨d, h1, h2⟩ := h
    cases h2
    exact ⟨[], rfl, by simpa using h1, fun t Q k => by simpa [takeG] using k⟩
  | b :: bs, env, x, dx, hg, h => by
    simp only [takeG] at h ⊢
    cases hs : stripB env.length g w b with
    | none =>
      simp only [hs] at h ⊢
      obtain ⟨d, h1, h2⟩ := h
      cases h2
      exact ⟨[], rfl, by simpa using h1, fun t Q k => by simpa using k⟩
    | some b' =>
      simp only [hs] at h ⊢
      have h' : den P (.bind b' (wrapBinds (takeG g w (env.length + 1) bs).1 (.ret x))) env (fun s => s = .ret dx) := h
      obtain ⟨d, h1, h2⟩ := bind_any h'
      have hl : env.length + 1 = (env ++ [d]).length := by simp
      rw [hl] at h1 ⊢
      obtain ⟨us, g1, g2, g3⟩ := takeG_pos (env := env ++ [d]) (E.eval_mono (prefix_append _ _) _ hg) h1
      refine ⟨d :: us, by simp [g1], by simpa using g2, fun t Q k => ?_⟩
      exact stripB_pos hs hg (h2 _ _ (g3 t Q (by simpa using k)))

theorem takeG_neg : ∀ {bs : List Bind} {env : List D}, g.eval env = some (.v (.bool p)) → p ≠ w →
    ∃ us : List D, us.length = (takeG g w env.length bs).2.1 ∧ ∀ (t : T) (Q : Sig → Prop), den P (wrapBinds (takeG g w env.length bs).2.2 t) (env ++ us) Q → den P (wrapBinds bs t) env Q
  | [], env, hg, hp => ⟨[], rfl, fun t Q k => by simpa [takeG] using k⟩
  | b :: bs, env, hg, hp => by
    simp only [takeG]
    cases hs : stripB env.length g w b with
    | none => exact ⟨[], rfl, fun t Q k => by simpa using k⟩
    | some b' =>
      simp only
      have hl : env.length + 1 = (env ++ [D.undef]).length := by simp
      rw [hl]
      obtain ⟨us, g1, g3⟩ := takeG_neg (bs := bs) (env := env ++ [D.undef]) (E.eval_mono (prefix_append _ _) _ hg) hp
      refine ⟨D.undef :: us, by simp [g1], fun t Q k => ?_⟩
      exact stripB_neg hs hg hp (g3 t Q (by simpa using k))

theorem splitG_inv {n k : Nat} {bs bs' rest : List Bind} {y z : E} (h : splitG n bs = some (g, w, bs', k, y, z, rest)) : takeG g w n bs = (bs', k, .ev (.ite g y z) :: rest) := by
  unfold splitG at h
  split at h
  · split at h
    · rename_i e
      split at h
      · rename_i hb
        cases h
        rw [e, ← E.beqG_eq hb]
      · cases h
    · cases h
  · cases h

/-- A chain of conditions, in one step. -/
theorem st_chain {bs bs' rest : List Bind} {k n : Nat} {y z : E} {t : T} {Q : Sig → Prop} {d1 d2 : D} (hn : env.length = n) (hsp : splitG n bs = some (g, w, bs', k, y, z, rest)) (hg : g.eval env = some (.v (.bool p)))
    (h1 : p = w → den P (wrapBinds bs' (.ret (bif w then y else z))) env (fun s => s = .ret d1)) (h2 : (bif w then z else y).eval env = some d2)
    (hk : allN k fun us => den P (wrapBinds rest t) (env ++ us ++ [if p = w then d1 else d2]) Q) : den P (wrapBinds bs t) env Q := by
  subst hn
  have hT := splitG_inv hsp
  by_cases hp : p = w
  · have h1' := h1 hp
    have hbs : bs' = (takeG g w env.length bs).1 := by rw [hT]
    rw [hbs] at h1'
    obtain ⟨us, g1, g2, g3⟩ := takeG_pos (by rw [← hp]; exact hg) h1'
    rw [hT] at g1 g3
    refine g3 t Q ⟨if p = w then d1 else d2, ?_, allN_get hk g1⟩
    have hg' := E.eval_mono (prefix_append env us) _ hg
    simp only [E.eval, hg', hp]
    cases w <;> simpa using g2
  · obtain ⟨us, g1, g3⟩ := takeG_neg (P := P) (bs := bs) hg hp
    rw [hT] at g1 g3
    refine g3 t Q ⟨if p = w then d1 else d2, ?_, allN_get hk g1⟩
    have hg' := E.eval_mono (prefix_append env us) _ hg
    have h2' := E.eval_mono (prefix_append env us) _ h2
    simp only [E.eval, hg', if_neg hp]
    cases w <;> cases p <;> first | exact absurd rfl hp | simpa using h2'

/-- a || .. -/
theorem st_or {bs bs' rest : List Bind} {k n : Nat} {z : E} {t : T} {Q : Sig → Prop} {q : Bool} (hn : env.length = n) (hsp : splitG n bs = some (g, false, bs', k, .const (.v (.bool true)), z, rest)) (hg : g.eval env = some (.v (.bool p)))
    (h1 : p = false → den P (wrapBinds bs' (.ret z)) env (fun s => s = .ret (.v (.bool q))))
    (hk : allN k fun us => den P (wrapBinds rest t) (env ++ us ++ [.v (.bool (p || q))]) Q) : den P (wrapBinds bs t) env Q := by
  refine st_chain (d1 := .v (.bool q)) (d2 := .v (.bool true)) hn hsp hg h1 rfl ?_
  have e : (if p = false then D.v (.bool q) else .v (.bool true)) = .v (.bool (p || q)) := by cases p <;> simp
  rw [e]
  exact hk

/-- a && .. -/
theorem st_and {bs bs' rest : List Bind} {k n : Nat} {y : E} {t : T} {Q : Sig → Prop} {q : Bool} (hn : env.length = n) (hsp : splitG n bs = some (g, true, bs', k, y, .const (.v (.bool false)), rest)) (hg : g.eval env = some (.v (.bool p)))
    (h1 : p = true → den P (wrapBinds bs' (.ret y)) env (fun s => s = .ret (.v (.bool q))))
    (hk : allN k fun us => den P (wrapBinds rest t) (env ++ us ++ [.v (.bool (p && q))]) Q) : den P (wrapBinds bs t) env Q := by
  refine st_chain (d1 := .v (.bool q)) (d2 := .v (.bool false)) hn hsp hg h1 rfl ?_
  have e : (if p = true then D.v (.bool q) else .v (.bool false)) = .v (.bool (p && q)) := by cases p <;> simp
  rw [e]
  exact hk

end

/-! ## loops over a range -/

section
variable {P : Program} {t a b : T} {bs : List Bind} {env env2 : List D} {Q : Sig → Prop} {x y z g : E} {d : D}

/-- A loop that counts to n: its state in round i is f i; J holds as long as it goes on. -/
theorem st_range {l : Nat} {inits : List E} {body : T} (f : Nat → List D) (J : Nat → Prop) (n : Nat) (h0 : evalAll env inits = some (f 0)) (hl : ∀ i, (f i).length = inits.length) (j0 : J 0)
    (hb : ∀ i, i < n → J i → ∀ R : List D → Prop, (J (i + 1) → R (f (i + 1))) → den P body (env ++ f i) (catchL l R Q))
    (he : J n → ∀ R : List D → Prop, den P body (env ++ f n) (catchL l R Q)) : den P (.loop l inits body) env Q := by
  refine st_loop (fun k ds => ∃ i, i ≤ n ∧ k = n - i ∧ ds = f i ∧ J i) h0 n ⟨0, Nat.zero_le _, rfl, rfl, j0⟩ ?_
  rintro k _ ⟨i, hi, rfl, rfl, hJ⟩
  refine ⟨hl i, fun R hR => ?_⟩
  rcases Nat.lt_or_ge i n with h | h
  · exact hb i h hJ R fun hJ' => hR (n - (i + 1)) _ (by omega) ⟨i + 1, h, rfl, rfl, hJ'⟩
  · have e : i = n := by omega
    subst e
    exact he hJ R

/-- a join, with what is known there -/
theorem st_joinK {l n : Nat} {body rest : T} (K : List D → Prop) (hb : den P body env (catchL l K Q)) (hr : ∀ ds, K ds → ds.length = n ∧ den P rest (env ++ ds) Q) : den P (.join l n body rest) env Q :=
  st_join (den_mono (fun s hs => by
    cases s with
    | jump l' ds =>
      simp only [catchL] at hs ⊢
      split
      · rename_i e; rw [if_pos e] at hs; exact hr _ hs
      · rename_i e; rw [if_neg e] at hs; exact hs
    | ret d => exact hs
    | pan d st sl kd => exact hs) hb)

/-- a choice of truth values -/
theorem st_selB {p u v : Bool} (hg : g.eval env = some (.v (.bool p))) (hy : y.eval env = some (.v (.bool u))) (hz : z.eval env = some (.v (.bool v))) (he : env ++ [.v (.bool (bif p then u else v))] = env2) (k : den P (wrapBinds bs t) env2 Q) : den P (wrapBinds (.ev (.ite g y z) :: bs) t) env Q := by
  subst he
  exact ⟨_, by cases p <;> simp only [E.eval, hg, hy, hz, cond], k⟩

/-- a choice of numbers -/
theorem st_selI {p : Bool} {ki : IntKind} {u v : Int} (hg : g.eval env = some (.v (.bool p))) (hy : y.eval env = some (.v (.int ki u))) (hz : z.eval env = some (.v (.int ki v))) (he : env ++ [.v (.int ki (if p = true then u else v))] = env2) (k : den P (wrapBinds bs t) env2 Q) : den P (wrapBinds (.ev (.ite g y z) :: bs) t) env Q := by
  subst he
  exact ⟨_, by cases p <;> simp only [E.eval, hg, hy, hz, if_true, if_false, Bool.false_eq_true], k⟩

theorem wrap64 {n : Int} (h : -9223372036854775808 ≤ n ∧ n < 9223372036854775808) : IntKind.i64.wrap n = n := by
  simp [IntKind.wrap, IntKind.bits, IntKind.signed]; omega

theorem st_add {u v : Int} (hy : y.eval env = some (.v (.int .i64 u))) (hz : z.eval env = some (.v (.int .i64 v))) (hb : -9223372036854775808 ≤ u + v ∧ u + v < 9223372036854775808) (he : env ++ [.v (.int .i64 (u + v))] = env2) (k : den P (wrapBinds bs t) env2 Q) : den P (wrapBinds (.ev (.bin .add .int y z) :: bs) t) env Q := by
  subst he
  refine ⟨_, ?_, k⟩
  simp only [E.eval, hy, hz, Option.bind_some, D.bin, cmpI, arI, wrap64 hb, if_true, Option.map_some]
  first | done | rfl

theorem st_sub {u v : Int} (hy : y.eval env = some (.v (.int .i64 u))) (hz : z.eval env = some (.v (.int .i64 v))) (hb : -9223372036854775808 ≤ u - v ∧ u - v < 9223372036854775808) (he : env ++ [.v (.int .i64 (u - v))] = env2) (k : den P (wrapBinds bs t) env2 Q) : den P (wrapBinds (.ev (.bin .sub .int y z) :: bs) t) env Q := by
  subst he
  refine ⟨_, ?_, k⟩
  simp only [E.eval, hy, hz, Option.bind_some, D.bin, cmpI, arI, wrap64 hb, if_true, Option.map_some]
  first | done | rfl

theorem st_mul {u v : Int} (hy : y.eval env = some (.v (.int .i64 u))) (hz : z.eval env = some (.v (.int .i64 v))) (hb : -9223372036854775808 ≤ u * v ∧ u * v < 9223372036854775808) (he : env ++ [.v (.int .i64 (u * v))] = env2) (k : den P (wrapBinds bs t) env2 Q) : den P (wrapBinds (.ev (.bin .mul .int y z) :: bs) t) env Q := by
  subst he
  refine ⟨_, ?_, k⟩
  simp only [E.eval, hy, hz, Option.bind_some, D.bin, cmpI, arI, wrap64 hb, if_true, Option.map_some]
  first | done | rfl

/-- one more, for an index -/
theorem st_inc {i : Nat} (hy : y.eval env = some (.v (.int .i64 i))) (hb : i < 4611686018427387904) (he : env ++ [.v (.int .i64 (i + 1 : Nat))] = env2) (k : den P (wrapBinds bs t) env2 Q) : den P (wrapBinds (.ev (.bin .add .int y (.const (.v (.int .i64 1)))) :: bs) t) env Q := by
  refine st_add hy rfl (by omega) ?_ k
  rw [← he]; rfl

/-- a call under conditions -/
theorem st_callA {p0 : E × Bool} {act : List (E × Bool)} {f : FuncId} {h : E} {args : List E} {rs : List Bool} {w : Bool} (ha : evAct none env (p0 :: act) = some w) (he : env ++ [D.undef] = env2) (k1 : w = true → den P (wrapBinds (.call [] f h args rs :: bs) t) env Q) (k2 : w = false → den P (wrapBinds bs t) env2 Q) : den P (wrapBinds (.call (p0 :: act) f h args rs :: bs) t) env Q := by
  subst he
  obtain ⟨h1, h2⟩ := evAct_sound (P := P) (yk := none) (env' := env) rfl ha
  cases w with
  | true => obtain ⟨_, d, g1, g2⟩ := k1 rfl; exact ⟨h1, d, fun _ => g1 fun _ h => (by cases h), g2⟩
  | false => exact ⟨h1, D.undef, fun hh => (by simp at h2; exact absurd hh h2), k2 rfl⟩

/-- a writing call under conditions -/
theorem st_wcallA {p0 : E × Bool} {act : List (E × Bool)} {f : FuncId} {h : E} {args : List E} {rs : List Bool} {w : Bool} {st : D} (ha : evAct none env (p0 :: act) = some w) (hs : h.eval env = some st) (he : env ++ [.tup [D.undef, st]] = env2) (k1 : w = true → den P (wrapBinds (.wcall [] f h args rs :: bs) t) env Q) (k2 : w = false → den P (wrapBinds bs t) env2 Q) : den P (wrapBinds (.wcall (p0 :: act) f h args rs :: bs) t) env Q := by
  subst he
  obtain ⟨h1, h2⟩ := evAct_sound (P := P) (yk := none) (env' := env) rfl ha
  cases w with
  | true =>
    obtain ⟨_, st', d, h', g1, g2, _, g4⟩ := k1 rfl
    exact ⟨h1, st', d, h', g1, fun _ => g2 fun _ h => (by cases h), fun hh => absurd (h2.1 rfl) hh, g4⟩
  | false => exact ⟨h1, st, D.undef, st, hs, fun hh => (by simp at h2; exact absurd hh h2), fun _ => rfl, k2 rfl⟩

/-- is a slice nil? -/
theorem st_nilq {neg : Bool} {es : List D} (hx : x.eval env = some (.lst es)) (k : ∀ b, (b = true → es = []) → den P t (env ++ [.v (.bool (b != neg))]) Q) : den P (.nilq x neg t) env Q := by
  cases es with
  | nil => exact ⟨_, _, hx, rfl, fun b _ => k b fun _ => rfl⟩
  | cons e es => exact ⟨_, _, hx, rfl, fun b hb => k b fun h => (by rw [h] at hb; simp at hb)⟩

end
end Go.Am
