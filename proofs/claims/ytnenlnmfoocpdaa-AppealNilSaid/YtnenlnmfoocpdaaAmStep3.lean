/-
  More operations: addresses, operators, new variables.
-/
import Derived.Test.YtnenlnmfoocpdaaAmStep2
import Derived.Laws.Pointers
set_option linter.unusedSimpArgs false
set_option linter.unusedVariables false
namespace Go.Am
section
variable {P : Program} {w w0 : World} {X : Ent} {a : Act} {σ : SState} {env : List D} {ρ : Rho}

theorem opOk_same {o : Oper} {v : Value} {sv : SV} (h : Rep w0 X w a σ env ρ) (hd : ∀ d, o.dst = some d → d < σ.tmps.length) (hr : (execOp a.eval o).run P w = .ok (.value v) w) (hs : SRd w ρ env v sv) : OpOk P o a w w0 X (σ.put o.dst sv) env :=
  opOk_value hr (h.put hd hs)

theorem lmove_sound {o : Oper} {x : Operand} {sx : SV} (ho : o.op = .move x ∨ o.op = .assign x) (hx : SRd w ρ env (a.eval x) sx) (h : Rep w0 X w a σ env ρ) (hd : ∀ d, o.dst = some d → d < σ.tmps.length) : OpOk P o a w w0 X (σ.put o.dst sx) env :=
  opOk_same h hd (by rcases ho with ho | ho <;> (unfold execOp; simp only [ho]; rfl)) hx

theorem RdD.loc_form {S : Sets} {v : Value} {i off : Nat} (h : RdD w S v (.loc i off)) : ∃ ad, v = .pointer (some ad) := by
  cases h; exact ⟨_, rfl⟩

theorem RdD.v_eq {S : Sets} {v x : Value} (h : RdD w S v (.v x)) : v = x := h.v_inv.1

theorem kindOf_ptr {t : TypeId} (h : kindOf P t = some .ptr) : ∃ e, P.underlying t = some (.pointer e) := by
  unfold kindOf at h
  split at h <;> simp at h
  exact ⟨_, by assumption⟩

theorem kindOf_bool {t : TypeId} (h : kindOf P t = some .bool) : P.underlying t = some .bool := by
  unfold kindOf at h
  split at h <;> simp at h
  assumption

theorem equalIn_ptr1 (d : Nat) (t e : TypeId) (p : Option Addr) (h : P.underlying t = some (.pointer e)) : (Op.equalIn (d + 1) t (.pointer p) (.pointer none)).run P w = .ok p.isNone w := by
  simp only [Op.equalIn, Sem.run_bind, run_underlying h, Result.andThen_ok]
  cases p <;> rfl
theorem equalIn_ptr2 (d : Nat) (t e : TypeId) (p : Option Addr) (h : P.underlying t = some (.pointer e)) : (Op.equalIn (d + 1) t (.pointer none) (.pointer p)).run P w = .ok p.isNone w := by
  simp only [Op.equalIn, Sem.run_bind, run_underlying h, Result.andThen_ok]
  rfl
theorem eql_ptr1 (t e : TypeId) (p : Option Addr) (h : P.underlying t = some (.pointer e)) : (binOp .eql t (.pointer p) (.pointer none)).run P w = .ok (.bool p.isNone) w := by
  have h1 : (Op.equal t (.pointer p) (.pointer none)).run P w = .ok p.isNone w := equalIn_ptr1 9999 t e p h
  simp only [binOp, Sem.run_bind, h1, Result.andThen_ok, Sem.run_pure]
theorem neq_ptr1 (t e : TypeId) (p : Option Addr) (h : P.underlying t = some (.pointer e)) : (binOp .neq t (.pointer p) (.pointer none)).run P w = .ok (.bool (!p.isNone)) w := by
  have h1 : (Op.equal t (.pointer p) (.pointer none)).run P w = .ok p.isNone w := equalIn_ptr1 9999 t e p h
  simp only [binOp, Sem.run_bind, h1, Result.andThen_ok, Sem.run_pure]
theorem eql_ptr2 (t e : TypeId) (p : Option Addr) (h : P.underlying t = some (.pointer e)) : (binOp .eql t (.pointer none) (.pointer p)).run P w = .ok (.bool p.isNone) w := by
  have h1 : (Op.equal t (.pointer none) (.pointer p)).run P w = .ok p.isNone w := equalIn_ptr2 9999 t e p h
  simp only [binOp, Sem.run_bind, h1, Result.andThen_ok, Sem.run_pure]
theorem neq_ptr2 (t e : TypeId) (p : Option Addr) (h : P.underlying t = some (.pointer e)) : (binOp .neq t (.pointer none) (.pointer p)).run P w = .ok (.bool (!p.isNone)) w := by
  have h1 : (Op.equal t (.pointer none) (.pointer p)).run P w = .ok p.isNone w := equalIn_ptr2 9999 t e p h
  simp only [binOp, Sem.run_bind, h1, Result.andThen_ok, Sem.run_pure]

theorem run_part_one {t : TypeId} {xs : Array Value} {i : Nat} {v : Value} (hg : aggT P t = some false) (hv : xs[i]? = some v) : (part t xs i).run P w = .ok v w := by
  simp [part, run_isAgg hg, hv]

theorem run_eqFields {d : Nat} {xs ys : Array Value} {dx dy : List D} {S : Sets} (hxl : xs.size = dx.length) (hyl : ys.size = dy.length) (hx : ∀ (i : Nat) (v : Value) (c : D), xs[i]? = some v → dx[i]? = some c → RdD w S v c) (hy : ∀ (i : Nat) (v : Value) (c : D), ys[i]? = some v → dy[i]? = some c → RdD w S v c) :
    ∀ (fs : List Field) (i : Nat) (ks : List Nat) (b : Bool), flatFields P i fs = some ks → D.eqs ks (dx.drop i) (dy.drop i) = some b → (Op.eqFields (d + 1) xs ys fs).run P w = .ok b w
  | [], i, ks, b, hf, he => by
    simp only [flatFields] at hf
    cases hf
    cases h1 : dx.drop i <;> cases h2 : dy.drop i <;> rw [h1, h2] at he <;> simp [D.eqs] at he
    subst he
    simp [Op.eqFields]
  | f :: fs, i, ks, b, hf, he => by
    simp only [flatFields] at hf
    split at hf
    · rename_i hc
      obtain ⟨hoff, hname⟩ := hc
      have key : ∀ {ks' : List Nat} {cx cy : D} {rx ry : List D} {r b' : Bool}, dx.drop i = cx :: rx → dy.drop i = cy :: ry → flatFields P (i + 1) fs = some ks' → aggT P f.type = some false →
          (∀ {u v : Value}, RdD w S u cx → RdD w S v cy → (Op.equalIn (d + 1) f.type u v).run P w = .ok r w) → D.eqs ks' rx ry = some b' → b = (r && b') → (Op.eqFields (d + 1) xs ys (f :: fs)).run P w = .ok b w := by
        intro ks' cx cy rx ry r b' h1 h2 hks hagg hr hb' hbb
        have hil : i < dx.length := by
          rcases Nat.lt_or_ge i dx.length with h | h
          · exact h
          · rw [List.drop_of_length_le h] at h1; cases h1
        have hil' : i < dy.length := by
          rcases Nat.lt_or_ge i dy.length with h | h
          · exact h
          · rw [List.drop_of_length_le h] at h2; cases h2
        rw [List.drop_eq_getElem_cons hil] at h1
        rw [List.drop_eq_getElem_cons hil'] at h2
        cases h1; cases h2
        have hpx : (part f.type xs f.offset).run P w = .ok xs[i] w := run_part_one hagg (by rw [hoff]; simp [hxl, hil])
        have hpy : (part f.type ys f.offset).run P w = .ok ys[i] w := run_part_one hagg (by rw [hoff]; simp [hyl, hil'])
        have hrr := hr (hx i xs[i] dx[i] (by simp [hxl, hil]) (by simp [hil])) (hy i ys[i] dy[i] (by simp [hyl, hil']) (by simp [hil']))
        have ih' := run_eqFields (d := d) hxl hyl hx hy fs (i + 1) ks' b' hks hb'
        simp only [Op.eqFields, hname, ne_eq, not_false_eq_true, if_true, Sem.run_bind, hpx, hpy, hrr, Result.andThen_ok]
        cases r with
        | false => simp [hbb]
        | true => simp [hbb, ih']
      split at hf
      · rename_i k hu
        obtain ⟨ks', hks, rfl⟩ := Option.map_eq_some_iff.1 hf
        unfold D.eqs at he
        split at he <;> first | (rename_i e _ _; cases e; done) | skip
        · rename_i e1 e2 e3
          cases e1
          split at he
          · rename_i hk
            subst hk
            obtain ⟨b', h1, rfl⟩ := Option.map_eq_some_iff.1 he
            exact key e2 e3 hks (by unfold aggT; rw [hu]; rfl) (fun hu1 hv1 => by rw [hu1.v_eq, hv1.v_eq]; exact run_equalIn_int w d f.type _ k _ _ hu) h1 rfl
          · cases he
        · cases he
      · rename_i hu
        obtain ⟨ks', hks, rfl⟩ := Option.map_eq_some_iff.1 hf
        unfold D.eqs at he
        split at he <;> first | (rename_i e _ _; cases e; done) | skip
        · rename_i e1 e2 e3
          cases e1
          obtain ⟨b', h1, rfl⟩ := Option.map_eq_some_iff.1 he
          exact key e2 e3 hks (by unfold aggT; rw [hu]; rfl) (fun hu1 hv1 => by rw [hu1.v_eq, hv1.v_eq]; exact run_equalIn_bool' w d f.type _ _ hu) h1 rfl
        · cases he
      · rename_i hu
        obtain ⟨ks', hks, rfl⟩ := Option.map_eq_some_iff.1 hf
        unfold D.eqs at he
        split at he <;> first | (rename_i e _ _; cases e; done) | skip
        · rename_i e1 e2 e3
          cases e1
          obtain ⟨b', h1, rfl⟩ := Option.map_eq_some_iff.1 he
          exact key e2 e3 hks (by unfold aggT; rw [hu]; rfl) (fun hu1 hv1 => by rw [hu1.v_eq, hv1.v_eq]; exact run_equalIn_string w d f.type _ _ hu) h1 rfl
        · cases he
      · cases hf
    · cases hf

theorem run_bin {op : BinOp} {t : TypeId} {x y : Operand} {v u : Value} {kd : Kd} {dx dy dz : D} {S : Sets} (hk : kindOf P t = some kd) (hz : D.bin op kd dx dy = some dz) (hx : RdD w S v dx) (hy : RdD w S u dy) :
    ∃ r, (do eqGuard op t x y v u; binOp op t v u : Sem Value).run P w = .ok r w ∧ RdD w S r dz ∧ dz.one = true := by
  unfold D.bin at hz
  split at hz
  · rename_i k a k' b
    obtain rfl := hx.v_eq
    obtain rfl := hy.v_eq
    simp only [eqGuard_at_int, Sem.run_bind, Sem.run_pure, Result.andThen_ok]
    clear hk
    cases op
    case shl => simp [shI] at hz; obtain ⟨n, ⟨hb, rfl⟩, rfl⟩ := hz; exact ⟨_, by simp [binOp, Op.shift, show ¬ b < 0 by omega], .v rfl, rfl⟩
    case shr => simp [shI] at hz; obtain ⟨n, ⟨hb, rfl⟩, rfl⟩ := hz; exact ⟨_, by simp [binOp, Op.shift, show ¬ b < 0 by omega], .v rfl, rfl⟩
    case quo => simp [cmpI, arI] at hz; obtain ⟨rfl, n, ⟨hb, rfl⟩, rfl⟩ := hz; exact ⟨_, by simp [binOp, Op.intDiv, hb], .v rfl, rfl⟩
    case rem => simp [cmpI, arI] at hz; obtain ⟨rfl, n, ⟨hb, rfl⟩, rfl⟩ := hz; exact ⟨_, by simp [binOp, Op.intDiv, hb], .v rfl, rfl⟩
    all_goals (simp only [cmpI, arI, Option.map_some] at hz; by_cases hkk : k = k' <;> simp only [hkk, if_true, if_false, Option.some.injEq] at hz <;> first | (cases hz; done) | skip)
    all_goals (subst hkk; subst hz; exact ⟨_, by simp [binOp, Op.intCmp, Op.intArith, Op.intBits], .v rfl, rfl⟩)
  · rename_i b b'
    obtain rfl := hx.v_eq
    obtain rfl := hy.v_eq
    have ht := kindOf_bool hk
    simp only [eqGuard_at_bool, Sem.run_bind, Sem.run_pure, Result.andThen_ok]
    split at hz <;> first | (cases hz; done) | skip
    · cases hz; exact ⟨_, run_eql_bool w t b b' ht, .v rfl, rfl⟩
    · cases hz; exact ⟨_, run_neq_bool w t b b' ht, .v rfl, rfl⟩
  · rename_i s s'
    obtain rfl := hx.v_eq
    obtain rfl := hy.v_eq
    simp only [eqGuard_at_string, Sem.run_bind, Sem.run_pure, Result.andThen_ok]
    split at hz <;> first | (cases hz; done) | skip
    · split at hz
      · cases hz
      · rename_i hsz
        cases hz
        exact ⟨_, by simp only [binOp, Op.stringOp]; rw [if_neg hsz]; rfl, .v rfl, rfl⟩
    all_goals (cases hz; exact ⟨_, by simp only [binOp, Op.stringOp]; rfl, .v rfl, rfl⟩)
  · obtain rfl := hx.v_eq
    obtain rfl := hy.v_eq
    obtain ⟨e, ht⟩ := kindOf_ptr hk
    simp only [eqGuard_at_pointer, Sem.run_bind, Sem.run_pure, Result.andThen_ok]
    split at hz <;> first | (cases hz; done) | skip
    · cases hz; exact ⟨_, eql_ptr1 t e none ht, .v rfl, rfl⟩
    · cases hz; exact ⟨_, neq_ptr1 t e none ht, .v rfl, rfl⟩
  · obtain ⟨ad, rfl⟩ := hx.loc_form
    obtain rfl := hy.v_eq
    obtain ⟨e, ht⟩ := kindOf_ptr hk
    simp only [eqGuard_at_pointer, Sem.run_bind, Sem.run_pure, Result.andThen_ok]
    split at hz <;> first | (cases hz; done) | skip
    · cases hz; exact ⟨_, eql_ptr1 t e _ ht, .v rfl, rfl⟩
    · cases hz; exact ⟨_, neq_ptr1 t e _ ht, .v rfl, rfl⟩
  · obtain rfl := hx.v_eq
    obtain ⟨ad, rfl⟩ := hy.loc_form
    obtain ⟨e, ht⟩ := kindOf_ptr hk
    simp only [eqGuard_at_pointer, Sem.run_bind, Sem.run_pure, Result.andThen_ok]
    split at hz <;> first | (cases hz; done) | skip
    · cases hz; exact ⟨_, eql_ptr2 t e _ ht, .v rfl, rfl⟩
    · cases hz; exact ⟨_, neq_ptr2 t e _ ht, .v rfl, rfl⟩
  · obtain ⟨b, f, rfl, _⟩ := hx.ptr_cells
    obtain rfl := hy.v_eq
    obtain ⟨e, ht⟩ := kindOf_ptr hk
    simp only [eqGuard_at_pointer, Sem.run_bind, Sem.run_pure, Result.andThen_ok]
    split at hz <;> first | (cases hz; done) | skip
    · cases hz; exact ⟨_, eql_ptr1 t e _ ht, .v rfl, rfl⟩
    · cases hz; exact ⟨_, neq_ptr1 t e _ ht, .v rfl, rfl⟩
  · obtain rfl := hx.v_eq
    obtain ⟨b, f, rfl, _⟩ := hy.ptr_cells
    obtain ⟨e, ht⟩ := kindOf_ptr hk
    simp only [eqGuard_at_pointer, Sem.run_bind, Sem.run_pure, Result.andThen_ok]
    split at hz <;> first | (cases hz; done) | skip
    · cases hz; exact ⟨_, eql_ptr2 t e _ ht, .v rfl, rfl⟩
    · cases hz; exact ⟨_, neq_ptr2 t e _ ht, .v rfl, rfl⟩
  · rename_i ks dx dy
    obtain ⟨xs, rfl, hxl, _, hxr⟩ := hx.agg_inv
    obtain ⟨ys, rfl, hyl, _, hyr⟩ := hy.agg_inv
    have hfl : ∃ fs : Array Field, P.underlying t = some (.struct fs) ∧ flatStruct P t = some ks := by
      unfold kindOf at hk
      split at hk <;> simp at hk
      exact ⟨_, by assumption, hk⟩
    obtain ⟨fs, hu, hfl⟩ := hfl
    unfold flatStruct at hfl
    rw [hu] at hfl
    simp only at hfl
    split at hfl
    · rename_i hc
      have hfo : P.fieldsOf t = fs := by simp [Program.fieldsOf, hu]
      have heq : ∀ {b : Bool}, D.eqs ks dx dy = some b → (Op.equalIn 10000 t (.agg xs) (.agg ys)).run P w = .ok b w := by
        intro b hb
        rw [run_equalIn_agg w 9999 t xs ys (by rw [hfo]; exact hu) hc.1, hfo]
        exact run_eqFields (d := 9998) hxl hyl hxr hyr fs.toList 0 ks b hfl (by simpa using hb)
      have hg := run_eqGuard_agg (P := P) w op t x y xs ys hc.2
      simp only [Sem.run_bind, hg, Result.andThen_ok]
      split at hz
      · obtain ⟨b, hb, rfl⟩ := Option.map_eq_some_iff.1 hz
        exact ⟨.bool b, by rw [run_eql_struct, heq hb]; rfl, .v rfl, rfl⟩
      · obtain ⟨b, hb, rfl⟩ := Option.map_eq_some_iff.1 hz
        exact ⟨.bool (!b), by rw [run_neq_struct, heq hb]; rfl, .v rfl, rfl⟩
      · cases hz
    · cases hfl
  · cases hz

theorem isAddr_form {v : Value} {sv : SV} (h : SRd w ρ env v sv) (ha : isAddr sv = true) : ∃ ad, v = .pointer (some ad) := by
  cases sv <;> simp [isAddr] at ha
  · exact ⟨_, h.addr_inv⟩
  · obtain ⟨_, _, _, hv⟩ := h.eaddr_inv; exact ⟨_, hv⟩
  · obtain ⟨_, _, hd⟩ := h.iptr_inv; obtain ⟨b, f, hv, _⟩ := hd.ptr_cells; exact ⟨_, hv⟩

theorem isNilC_form {v : Value} {sv : SV} (h : SRd w ρ env v sv) (ha : isNilC sv = true) : v = .pointer none := by
  unfold isNilC at ha
  split at ha
  · obtain ⟨d, hx, hd, _⟩ := h.e_inv
    simp [E.eval] at hx
    subst hx
    exact hd.v_eq
  · simp at ha

theorem lbin_sound {o : Oper} {op : BinOp} {t yt : TypeId} {x y : Operand} {sx sy : SV} {ix : Nat} {r : LRes} (ho : o.op = .binOp op t x y yt) (hl : lbin P op t sx sy ix = some r) (hx : SRd w ρ env (a.eval x) sx) (hy : SRd w ρ env (a.eval y) sy) (h : Rep w0 X w a σ env ρ)
    (hd : ∀ d, o.dst = some d → d < σ.tmps.length) (hb : BindOk P env ix r.bind) : r.upd = none ∧ OpOk P o a w w0 X (σ.put o.dst r.val) env := by
  unfold lbin at hl
  have hexec : ∀ {v : Value}, (do eqGuard op t x y (a.eval x) (a.eval y); binOp op t (a.eval x) (a.eval y) : Sem Value).run P w = .ok v w → (execOp a.eval o).run P w = .ok (.value v) w := by
    intro v hv
    unfold execOp
    simp only [ho, Sem.run_bind]
    simp only [Sem.run_bind] at hv
    cases hg : (eqGuard op t x y (a.eval x) (a.eval y)).run P w with
    | halt _ _ => rw [hg] at hv; simp at hv
    | ok _ w1 =>
      rw [hg] at hv
      simp only [Result.andThen_ok] at hv ⊢
      rw [hv]
      rfl
  split at hl
  · rename_i hc
    obtain ⟨hk, hc⟩ := hc
    obtain ⟨e, ht⟩ := kindOf_ptr hk
    have hrun : ∀ b, (op = .eql ∧ b = false ∨ op = .neq ∧ b = true) → (do eqGuard op t x y (a.eval x) (a.eval y); binOp op t (a.eval x) (a.eval y) : Sem Value).run P w = .ok (.bool b) w := by
      intro b hob
      rcases hc with ⟨h1, h2⟩ | ⟨h1, h2⟩
      · obtain ⟨ad, hv⟩ := isAddr_form hx h1
        have hu := isNilC_form hy h2
        rw [hv, hu]
        simp only [eqGuard_at_pointer, Sem.run_bind, Sem.run_pure, Result.andThen_ok]
        rcases hob with ⟨rfl, rfl⟩ | ⟨rfl, rfl⟩
        · exact eql_ptr1 t e _ ht
        · exact neq_ptr1 t e _ ht
      · obtain ⟨ad, hu⟩ := isAddr_form hy h2
        have hv := isNilC_form hx h1
        rw [hv, hu]
        simp only [eqGuard_at_pointer, Sem.run_bind, Sem.run_pure, Result.andThen_ok]
        rcases hob with ⟨rfl, rfl⟩ | ⟨rfl, rfl⟩
        · exact eql_ptr2 t e _ ht
        · exact neq_ptr2 t e _ ht
    split at hl
    · cases hl; exact ⟨rfl, opOk_same h hd (hexec (hrun false (.inl ⟨rfl, rfl⟩))) (.e rfl (.v rfl) fun _ => rfl)⟩
    · cases hl; exact ⟨rfl, opOk_same h hd (hexec (hrun true (.inr ⟨rfl, rfl⟩))) (.e rfl (.v rfl) fun _ => rfl)⟩
    · cases hl
  · split at hl
    · rename_i kd x' y' hk hx' hy'
      cases hl
      obtain ⟨dx, hdx, hrx⟩ := SV.toE_rd hx' hx
      obtain ⟨dy, hdy, hry⟩ := SV.toE_rd hy' hy
      obtain ⟨dz, he, hix⟩ := hb
      simp only [E.eval, hdx, hdy, Option.bind_some] at he
      obtain ⟨r, hrun, hr, h1⟩ := run_bin (P := P) (x := x) (y := y) hk he hrx hry
      exact ⟨rfl, opOk_same h hd (hexec hrun) (.e (d := dz) (by simp [E.eval, hix]) hr fun _ => h1)⟩
    · cases hl

theorem lun_sound {o : Oper} {op : UnOp} {t : TypeId} {x : Operand} {sx : SV} {ix : Nat} {r : LRes} (ho : o.op = .unOp op t x) (hl : lun op sx ix = some r) (hx : SRd w ρ env (a.eval x) sx) (h : Rep w0 X w a σ env ρ)
    (hd : ∀ d, o.dst = some d → d < σ.tmps.length) (hb : BindOk P env ix r.bind) : r.upd = none ∧ OpOk P o a w w0 X (σ.put o.dst r.val) env := by
  obtain ⟨x', hx', rfl⟩ := Option.map_eq_some_iff.1 hl
  obtain ⟨dx, hdx, hrx⟩ := SV.toE_rd hx' hx
  obtain ⟨dz, he, hix⟩ := hb
  simp only [E.eval, hdx, Option.bind_some] at he
  unfold D.un at he
  split at he
  · rename_i b
    cases he
    have hv := hrx.v_eq
    exact ⟨rfl, opOk_same h hd (v := .bool (!b)) (by unfold execOp; simp [ho, hv, Op.unary]) (.e (by simp only [E.eval, hix]) (.v rfl) fun _ => rfl)⟩
  · rename_i k n
    cases he
    have hv := hrx.v_eq
    exact ⟨rfl, opOk_same h hd (v := .int k (k.wrap (0 - n))) (by unfold execOp; simp [ho, hv, Op.unary, Op.intArith]) (.e (by simp only [E.eval, hix]) (.v rfl) fun _ => rfl)⟩
  · cases he

theorem lconv_sound {o : Oper} {src dst : TypeId} {x : Operand} {sx : SV} {ix : Nat} {r : LRes} (ho : o.op = .convert src dst x) (hl : lconv P src dst sx ix = some r) (hx : SRd w ρ env (a.eval x) sx) (h : Rep w0 X w a σ env ρ)
    (hd : ∀ d, o.dst = some d → d < σ.tmps.length) (hb : BindOk P env ix r.bind) : r.upd = none ∧ OpOk P o a w w0 X (σ.put o.dst r.val) env := by
  unfold lconv at hl
  split at hl
  · rename_i ds k hs hdst
    obtain ⟨x', hx', rfl⟩ := Option.map_eq_some_iff.1 hl
    obtain ⟨dx, hdx, hrx⟩ := SV.toE_rd hx' hx
    obtain ⟨dz, he, hix⟩ := hb
    simp only [E.eval, hdx, Option.bind_some] at he
    unfold D.conv at he
    split at he
    · rename_i k' n
      cases he
      have hv := hrx.v_eq
      exact ⟨rfl, opOk_same h hd (v := .int k (k.wrap n)) (by unfold execOp; simp [ho, hv, convert, run_underlying hs, run_underlying hdst, Conv.intToInt]) (.e (by simp only [E.eval, hix]) (.v rfl) fun _ => rfl)⟩
    · cases he
  · cases hl

theorem lextract_sound {o : Oper} {x : Operand} {sx : SV} {i ix : Nat} {r : LRes} (ho : o.op = .extract x i) (hl : lextract sx i ix = some r) (hx : SRd w ρ env (a.eval x) sx) (h : Rep w0 X w a σ env ρ)
    (hd : ∀ d, o.dst = some d → d < σ.tmps.length) (hb : BindOk P env ix r.bind) : r.upd = none ∧ OpOk P o a w w0 X (σ.put o.dst r.val) env := by
  have hexec : ∀ {vs : Array Value} {v : Value}, a.eval x = .tuple vs → vs[i]? = some v → (execOp a.eval o).run P w = .ok (.value v) w := by
    intro vs v hv hi
    unfold execOp
    simp [ho, hv, Instr.extract, hi]
  unfold lextract at hl
  split at hl
  · rename_i cs
    obtain ⟨c, hc, rfl⟩ := Option.map_eq_some_iff.1 hl
    obtain ⟨vs, hv, hlen, hr⟩ := hx.tup_inv
    have hi : i < vs.size := by rw [hlen]; exact (List.getElem?_eq_some_iff.1 hc).1
    exact ⟨rfl, opOk_same h hd (hexec hv (Array.getElem?_eq_getElem hi)) (hr i _ c (Array.getElem?_eq_getElem hi) hc)⟩
  · rename_i y s
    cases hl
    obtain ⟨d, hd', hrd, _⟩ := hx.e_inv
    obtain ⟨dz, he, hix⟩ := hb
    simp only [E.eval, hd', Option.bind_some] at he
    unfold D.tget at he
    split at he
    · obtain ⟨vs, hv, hlen, hr⟩ := hrd.tup_inv
      have hi : i < vs.size := by rw [hlen]; exact (List.getElem?_eq_some_iff.1 he).1
      exact ⟨rfl, opOk_same h hd (hexec hv (Array.getElem?_eq_getElem hi)) (.e (d := dz) (by simp [E.eval, hix]) (hr i _ dz (Array.getElem?_eq_getElem hi) he) (by simp))⟩
    · cases he
  · cases hl

theorem lfieldAddr_sound {o : Oper} {s : TypeId} {x : Operand} {f : Nat} {sx : SV} {r : LRes} (ho : o.op = .fieldAddr s x f) (hl : lfieldAddr P s sx f = some r) (hx : SRd w ρ env (a.eval x) sx) (h : Rep w0 X w a σ env ρ)
    (hd : ∀ d, o.dst = some d → d < σ.tmps.length) : r.upd = none ∧ r.bind = none ∧ OpOk P o a w w0 X (σ.put o.dst r.val) env := by
  unfold lfieldAddr at hl
  split at hl
  · rename_i fs hs
    cases hf : fs[f]? with
    | none => simp [hf] at hl
    | some fd =>
    cases hn : szT P fd.type with
    | none => simp [hf, hn] at hl
    | some n =>
    simp only [hf, hn, Option.bind_some] at hl
    split at hl
    · cases hl
    · rename_i hn0
      have hexec : ∀ {b off : Nat}, a.eval x = .pointer (some ⟨b, off, none⟩) → (execOp a.eval o).run P w = .ok (.value (.pointer (some ⟨b, off + fd.offset, none⟩))) w := by
        intro b off hv
        unfold execOp
        simp [ho, hv, Instr.fieldAt, run_underlying hs, hf, Instr.sureAddr, fieldPlace, run_sizeOf hn, hn0, addr_add]
      split at hl
      · cases hl
        exact ⟨rfl, rfl, opOk_same h hd (hexec hx.addr_inv) .addr⟩
      · cases hl
        obtain ⟨m, k, hi, hv⟩ := hx.eaddr_inv
        exact ⟨rfl, rfl, opOk_same h hd (hexec hv) (by rw [Nat.add_assoc]; exact .eaddr hi)⟩
      · rename_i y0 off0
        cases hl
        obtain ⟨d, hd', hrd⟩ := hx.iptr_inv
        obtain ⟨b, off, hv, hc⟩ := hrd.ptr_cells
        refine ⟨rfl, rfl, opOk_same h hd (hexec hv) (.iptr hd' ?_)⟩
        have hc2 : ∀ (j : Nat) (e : D), (d.cells.drop (off0 + fd.offset))[j]? = some e → (d.cells.drop off0)[fd.offset + j]? = some e := fun j e hj => by
          rw [List.getElem?_drop] at hj ⊢
          rwa [Nat.add_assoc] at hj
        refine .ptr (val := fun j => ((w.cell? ⟨b, off + fd.offset + j, none⟩).getD undef)) (fun j e hj => (hc _ e (hc2 j e hj)).1) (fun j e hj => ?_) (fun j e hj => ?_) fun j e hj => ?_
        · have := (hc _ e (hc2 j e hj)).2.1
          rwa [← Nat.add_assoc] at this
        · obtain ⟨u, hu, _⟩ := (hc _ e (hc2 j e hj)).2.2
          rw [← Nat.add_assoc] at hu
          rw [hu]; rfl
        · obtain ⟨u, hu, hr⟩ := (hc _ e (hc2 j e hj)).2.2
          rw [← Nat.add_assoc] at hu
          rw [hu]; exact hr
      · cases hl
  · cases hl

/-- a pointer that is data, and the cells further on -/
theorem padd_rd {S : Sets} {v : Value} {dp d : D} {k : Nat} (h : RdD w S v dp) (hd : D.padd k dp = some d) : ∃ b off, v = .pointer (some ⟨b, off, none⟩) ∧ RdD w S (.pointer (some ⟨b, off + k, none⟩)) d ∧ d.one = true := by
  cases dp with
  | ptr cs =>
    simp only [D.padd] at hd
    cases hd
    obtain ⟨b, off, hv, hc⟩ := h.ptr_cells
    refine ⟨b, off, hv, ?_, rfl⟩
    have hc2 : ∀ (j : Nat) (e : D), (cs.drop k)[j]? = some e → cs[k + j]? = some e := fun j e hj => by
      rw [List.getElem?_drop] at hj
      exact hj
    refine .ptr (val := fun j => ((w.cell? ⟨b, off + k + j, none⟩).getD undef)) (fun j e hj => (hc _ e (hc2 j e hj)).1) (fun j e hj => ?_) (fun j e hj => ?_) fun j e hj => ?_
    · have := (hc _ e (hc2 j e hj)).2.1
      rwa [← Nat.add_assoc] at this
    · obtain ⟨u, hu, _⟩ := (hc _ e (hc2 j e hj)).2.2
      rw [← Nat.add_assoc] at hu
      rw [hu]; rfl
    · obtain ⟨u, hu, hr⟩ := (hc _ e (hc2 j e hj)).2.2
      rw [← Nat.add_assoc] at hu
      rw [hu]; exact hr
  | loc i off =>
    simp only [D.padd] at hd
    cases hd
    cases h with
    | loc hi => exact ⟨_, off, rfl, .loc hi, rfl⟩
  | _ => simp [D.padd] at hd

theorem lfieldE_sound {o : Oper} {s : TypeId} {x : Operand} {f ix : Nat} {sx : SV} {r : LRes} (ho : o.op = .fieldAddr s x f) (hl : lfieldE P s sx f ix = some r) (hx : SRd w ρ env (a.eval x) sx) (h : Rep w0 X w a σ env ρ)
    (hd : ∀ d, o.dst = some d → d < σ.tmps.length) (hb : BindOk P env ix r.bind) : r.upd = none ∧ OpOk P o a w w0 X (σ.put o.dst r.val) env := by
  unfold lfieldE at hl
  split at hl
  · rename_i fs p s1 hs
    cases hf : fs[f]? with
    | none => simp [hf] at hl
    | some fd =>
    cases hn : szT P fd.type with
    | none => simp [hf, hn] at hl
    | some n =>
    simp only [hf, hn, Option.bind_some] at hl
    split at hl
    · cases hl
    · rename_i hn0
      cases hl
      obtain ⟨dp, hpe, hrd, _⟩ := hx.e_inv
      obtain ⟨d, he, hix⟩ := hb
      simp only [E.eval, hpe, Option.bind_some] at he
      obtain ⟨b, off, hv, hrd', h1⟩ := padd_rd hrd he
      refine ⟨rfl, opOk_same h hd (v := .pointer (some ⟨b, off + fd.offset, none⟩)) ?_ (.e (d := d) (by simp [E.eval, hix]) hrd' fun _ => h1)⟩
      unfold execOp
      simp [ho, hv, Instr.fieldAt, run_underlying hs, hf, Instr.sureAddr, fieldPlace, run_sizeOf hn, hn0, addr_add]
  · cases hl

end
end Go.Am
