/-
  More operations: stores, variables, addresses, operators.
-/
import Derived.Test.YtnenlnmfoocpdaaAmStep
set_option linter.unusedSimpArgs false
set_option linter.unusedVariables false
namespace Go.Am
section
variable {P : Program} {w w0 : World} {X : Ent} {a : Act} {σ : SState} {env : List D} {ρ : Rho}

theorem RdD.lst_form {S : Sets} {v : Value} {es : List D} (h : RdD w S v (.lst es)) : ∃ ad n c, v = .slice ad n c ∧ n = es.length := by
  cases h with
  | nil => exact ⟨_, _, _, rfl, rfl⟩
  | emp _ => exact ⟨_, _, _, rfl, rfl⟩
  | lst hl => exact ⟨_, _, _, rfl, hl⟩

theorem SV.cellsOf_rd {agg : Bool} {n ix : Nat} {sv : SV} {ys : List SV} {b : Option Bind} {v : Value} (hobj : ∀ o x, σ.obj o = some x → ObjOk w ρ env o x) (h : sv.cellsOf agg n ix σ.obj = some (ys, b)) (hb : BindOk P env ix b) (hr : SRd w ρ env v sv) :
    v.cells.size = ys.length ∧ (∀ (i : Nat) (u : Value), v.cells[i]? = some u → u.oneCell' = true) ∧ ∀ (i : Nat) (u : Value) (c : SV), v.cells[i]? = some u → ys[i]? = some c → SRd w ρ env u c := by
  unfold SV.cellsOf at h
  cases agg with
  | true =>
    simp only [if_true] at h
    obtain ⟨vs, rfl, h1, h2, h3, h4⟩ := SV.split_rd (P := P) h hb hr
    exact ⟨by simp [Value.cells, h1, h2], h3, h4⟩
  | false =>
    simp only [Bool.false_eq_true, if_false] at h
    have one : ∀ {sv : SV}, v.oneCell' = true → SRd w ρ env v sv → v.cells.size = [sv].length ∧ (∀ (i : Nat) (u : Value), v.cells[i]? = some u → u.oneCell' = true) ∧ ∀ (i : Nat) (u : Value) (c : SV), v.cells[i]? = some u → [sv][i]? = some c → SRd w ρ env u c := by
      intro sv h1 hs
      have hc : v.cells = #[v] := by cases v <;> first | rfl | simp [Value.oneCell'] at h1
      rw [hc]
      refine ⟨rfl, fun i u hu => ?_, fun i u c hu hc' => ?_⟩
      · cases i with
        | zero => simp at hu; subst hu; exact h1
        | succ i => simp at hu
      · cases i with
        | zero => simp at hu hc'; subst hu hc'; exact hs
        | succ i => simp at hu
    split at h
    · rename_i x
      cases h
      obtain ⟨d, hx, hd, h1⟩ := hr.e_inv
      exact one (hd.one (h1 rfl)) hr
    · rename_i x
      cases h
      obtain ⟨d, hx, hd, _⟩ := hr.e_inv
      obtain ⟨d', he, _⟩ := hb
      simp only [E.eval, hx, Option.bind_some, D.scal] at he
      split at he
      · rename_i h1
        exact one (hd.one h1) (.e hx hd fun _ => h1)
      · cases he
    · rename_i o
      split at h
      · rename_i l sz ho
        cases h
        have hv := hr.slc_inv
        obtain ⟨vs, ty, es, _, _, _, _, _, hval, _⟩ := hobj o _ ho
        exact one (by rw [hv, hval]; rfl) hr
      · cases h
    · cases h; exact one (by rw [hr.addr_inv]; rfl) hr
    · cases h; obtain ⟨_, _, _, hv⟩ := hr.eaddr_inv; exact one (by rw [hv]; rfl) hr
    · cases h; obtain ⟨_, _, hd⟩ := hr.iptr_inv; exact one (hd.one rfl) hr
    · cases h; obtain ⟨_, _, hd, _⟩ := hr.own_inv; exact one (hd.one rfl) hr
    · cases h; obtain ⟨_, hv, _⟩ := hr.func_inv; exact one (by rw [hv]; rfl) hr
    · cases h

theorem exec_store {o : Oper} {t : TypeId} {x y : Operand} {b off n : Nat} {cur : Array Value} {ty : TypeId} (ho : o.op = .store t x y) (hx : a.eval x = .pointer (some ⟨b, off, none⟩)) (hn : szT P t = some n) (hl : (a.eval y).cells.size = n)
    (hone : ∀ (i : Nat) (u : Value), (a.eval y).cells[i]? = some u → u.oneCell' = true) (hh : w.heap[b]? = some (.cells cur ty (0, 0))) (hfit : off + n ≤ cur.size) :
    (execOp a.eval o).run P w = .ok .skip (w.setRow b (cur.toList.take off ++ (a.eval y).cells.toList ++ cur.toList.drop (off + n)).toArray) := by
  have hst := run_storeCells_at P b off ty (a.eval y).cells.toList 0 cur w hh (by simp [hl]; omega) (fun v hv => by
    obtain ⟨i, hi⟩ := List.getElem?_of_mem hv
    exact hone i v (by simpa using hi))
  simp only [Nat.add_zero, Array.length_toList, hl] at hst
  unfold execOp
  simp only [ho, hx, Instr.storeAt, Instr.sureAddr, storeVar, Sem.run_bind, Sem.run_pure, Result.andThen_ok, run_sizeOf hn]
  simp [hl, hst]

theorem splice_get {α : Type} (cs ys : List α) (off : Nat) (h : off + ys.length ≤ cs.length) (i : Nat) : (cs.take off ++ ys ++ cs.drop (off + ys.length))[i]? = if i < off then cs[i]? else if i < off + ys.length then ys[i - off]? else cs[i]? := by
  have h1 : (cs.take off).length = off := by simp; omega
  split
  · rename_i hi
    rw [List.append_assoc, List.getElem?_append_left (by omega), List.getElem?_take, if_pos hi]
  · rename_i hi
    split
    · rename_i hj
      rw [List.append_assoc, List.getElem?_append_right (by omega), h1, List.getElem?_append_left (by omega)]
    · rename_i hj
      rw [List.getElem?_append_right (by simp; omega), List.getElem?_drop]
      congr 1
      simp
      omega

/-- the cells of a value that reads as data -/
theorem RdD.cells_rd {S : Sets} {v : Value} {d : D} (h : RdD w S v d) (ho : d.cells.all (·.one) = true) : v.cells.size = d.cells.length ∧ (∀ (i : Nat) (u : Value), v.cells[i]? = some u → u.oneCell' = true) ∧
    ∀ (i : Nat) (u : Value) (c : D), v.cells[i]? = some u → d.cells[i]? = some c → RdD w S u c := by
  have one : d.one = true → d.cells = [d] ∧ v.cells = #[v] ∧ v.oneCell' = true := fun h1 => by
    have h1v := h.one h1
    exact ⟨D.cells_one h1, by cases v <;> first | rfl | simp [Value.oneCell'] at h1v, h1v⟩
  by_cases h1 : d.one = true
  · obtain ⟨e1, e2, e3⟩ := one h1
    rw [e1, e2]
    refine ⟨rfl, fun j u hu => ?_, fun j u c hu hc => ?_⟩
    · cases j with
      | zero => simp at hu; subst hu; exact e3
      | succ j => simp at hu
    · cases j with
      | zero => simp at hu hc; subst hu hc; exact h
      | succ j => simp at hu
  · cases h with
    | agg hl ho' hh =>
      refine ⟨hl, fun j u hu => ?_, fun j u c hu hc => hh j u c hu hc⟩
      rename_i vs ds
      have hj : j < ds.length := by rw [← hl]; exact (Array.getElem?_eq_some_iff.1 hu).1
      exact (hh j u _ hu (List.getElem?_eq_getElem hj)).one (ho' j _ (List.getElem?_eq_getElem hj))
    | tup hl hh => simp [D.cells, D.one] at ho
    | _ => exact absurd rfl h1

/-- a store into a block of the store -/
theorem sto_rep {cf : StCfg} {hx y' px : E} {x y : Operand} {n ix : Nat} {o : Oper} {t : TypeId} {sy : SV} {sp : Bool} (ho : o.op = .store t x y) (hn : szT P t = some n) (hob : σ.obj HID = some (.store cf hx)) (hro : cf.ro = false) (hp : SRd w ρ env (a.eval x) (.e px sp)) (hye : sy.toE = some y') (hy : SRd w ρ env (a.eval y) sy)
    (h : Rep w0 X w a σ env ρ) (hd : ∀ d, o.dst = some d → d < σ.tmps.length) (hb : BindOk P env ix (some (.ev (.sto n hx px y')))) : OpOk P o a w w0 X ((σ.setObj HID (some (.store cf (.sym ix)))).put o.dst .junk) env := by
  obtain ⟨dp, hpe, hprd, _⟩ := hp.e_inv
  obtain ⟨dy, hey, hyrd⟩ := SV.toE_rd hye hy
  obtain ⟨bs, hbe, hst, _⟩ := h.objs _ _ hob
  obtain ⟨d, he, hix⟩ := hb
  simp only [E.eval, hpe, hey, hbe, Option.bind_some] at he
  cases dp with
  | loc i off =>
    simp only [D.sto, Option.bind_eq_some_iff] at he
    obtain ⟨blk, hcb, he⟩ := he
    split at he
    · rename_i hc
      cases he
      obtain ⟨hc1, hc2, hc3⟩ := hc
      have hbs := cellsAt_some hcb
      obtain ⟨hf, vs, hh, hsz, hlen, hone, hr, hns⟩ := hst.cells i _ _ _ hbs
      obtain ⟨hy1, hy2, hy3⟩ := hyrd.cells_rd hc3
      have hxe : a.eval x = .pointer (some ⟨ρ.S.loc i, off, none⟩) := by
        generalize a.eval x = v at hprd
        cases hprd
        rfl
      have hrun := exec_store (P := P) (w := w) ho hxe hn (by omega) hy2 hh (by omega)
      refine opOk_skip hrun ((h.setBlock (.inl rfl) hob (b0 := ρ.S.loc i) hf (by simpa [SObj.ro] using hro) (by intro _ hh; exact hh) hns (fun b hb' => setRow_other w _ b _ hb') rfl rfl rfl (by simp) fun hk => ?_).put (by rw [SState.tmps_setObj]; exact hd) .junk)
      have hyl : (a.eval y).cells.toList.length = dy.cells.length := by simpa using hy1
      refine ⟨_, by simp only [E.eval]; exact hix, ⟨by rw [hst.n]; simp, fun i' e sz cs hi' => ?_, hst.nos, fun i' kvs hi' => ?_, fun i' j' x' y' hi' hj' hx' hy' hl => ?_⟩, rfl⟩
      · rw [List.getElem?_set] at hi'
        split at hi'
        · rename_i hii
          subst hii
          simp only [(List.getElem?_eq_some_iff.1 hbs).1, if_true, Option.some.injEq, D.blk.injEq] at hi'
          obtain ⟨rfl, rfl, rfl⟩ := hi'
          refine ⟨hf, _, setRow_heap w _ _ _ _ _ hh, ?_, ?_, ?_, ?_, hns⟩
          · simp only [List.size_toArray, List.length_append, List.length_take, List.length_drop, Array.length_toList, hyl]
            omega
          · simp only [List.size_toArray, List.length_append, List.length_take, List.length_drop, Array.length_toList, hyl]
            omega
          · intro j d hd'
            rw [← hc1] at hd'
            rw [splice_get _ _ _ (by omega)] at hd'
            split at hd'
            · exact hone j d hd'
            · split at hd'
              · exact List.all_eq_true.1 hc3 d (List.mem_of_getElem? hd')
              · exact hone j d hd'
          · intro j v d hv hd'
            rw [← hc1] at hv hd'
            rw [splice_get _ _ _ (by omega)] at hd'
            simp only [List.getElem?_toArray] at hv
            rw [← hyl] at hv hd'
            rw [splice_get _ _ _ (by simp; omega)] at hv
            split at hv
            · rename_i hj
              rw [if_pos hj] at hd'
              exact (hr j v d (by simpa using hv) hd').keep hk (Sets.le_refl _)
            · rename_i hj
              rw [if_neg hj] at hd'
              split at hv
              · rename_i hj2
                rw [if_pos hj2] at hd'
                exact (hy3 _ v d (by simpa using hv) hd').keep hk (Sets.le_refl _)
              · rename_i hj2
                rw [if_neg hj2] at hd'
                exact (hr j v d (by simpa using hv) hd').keep hk (Sets.le_refl _)
        · rename_i hii
          obtain ⟨hf', vs', hh', hsz', hlen', hone', hr', hns'⟩ := hst.cells i' _ _ _ hi'
          refine ⟨hf', vs', ?_, hsz', hlen', hone', fun j v d hv hd' => (hr' j v d hv hd').keep hk (Sets.le_refl _), hns'⟩
          rw [setRow_other w _ _ _ fun e => hii (hst.inj i i' _ _ hbs hi' rfl rfl e.symm)]
          exact hh'
      · rw [List.getElem?_set] at hi'
        split at hi'
        · rename_i hii
          subst hii
          simp [(List.getElem?_eq_some_iff.1 hbs).1] at hi'
        · rename_i hii
          obtain ⟨hf', es, clock, hh', hsz', hns', hr'⟩ := hst.maps i' _ hi'
          refine ⟨hf', es, clock, ?_, hsz', hns', fun j e kv he hkv => ?_⟩
          · rw [setRow_other w _ _ _ fun e => hii (hst.inj i i' _ _ hbs hi' rfl rfl e.symm)]
            exact hh'
          · obtain ⟨dk, dv, h1, h2, h3⟩ := hr' j e kv he hkv
            exact ⟨dk, dv, h1, h2.keep hk (Sets.le_refl _), h3.keep hk (Sets.le_refl _)⟩
      · have old : ∀ {k : Nat} {z : D}, (bs.set i (.blk blk.1 blk.2.1 (blk.2.2.take off ++ dy.cells ++ blk.2.2.drop (off + n))))[k]? = some z → z.live = true → ∃ z', bs[k]? = some z' ∧ z'.live = true := by
          intro k z hk hz
          rw [List.getElem?_set] at hk
          split at hk
          · rename_i hik; subst hik; exact ⟨_, hbs, rfl⟩
          · exact ⟨_, hk, hz⟩
        obtain ⟨_, h1, h1'⟩ := old hi' hx'
        obtain ⟨_, h2, h2'⟩ := old hj' hy'
        exact hst.inj i' j' _ _ h1 h2 h1' h2' hl
    · cases he
  | _ => simp [D.sto] at he

theorem lstore_sound {o : Oper} {t : TypeId} {x y : Operand} {sx sy : SV} {ix : Nat} {r : LRes} (ho : o.op = .store t x y) (hl : lstore P t sx sy σ.obj ix = some r) (hx : SRd w ρ env (a.eval x) sx) (hy : SRd w ρ env (a.eval y) sy) (h : Rep w0 X w a σ env ρ)
    (hd : ∀ d, o.dst = some d → d < σ.tmps.length) (hm : ∀ ob y, σ.obj ob = some y → ob = HID ∨ ob < σ.mem.length) (hb : BindOk P env ix r.bind) : ∃ ob z, r.upd = some (ob, z) ∧ (σ.obj ob).isSome ∧ r.val = .junk ∧ OpOk P o a w w0 X ((σ.setObj ob (some z)).put o.dst .junk) env := by
  unfold lstore at hl
  cases hg : aggT P t with
  | none => simp [hg] at hl
  | some agg =>
  cases hn : szT P t with
  | none => simp [hg, hn] at hl
  | some n =>
  simp only [hg, hn, Option.bind_some] at hl
  split at hl
  · rename_i ob off
    split at hl
    · rename_i cs hob
      obtain ⟨⟨ys, b⟩, hcs, hl⟩ := Option.bind_eq_some_iff.1 hl
      simp only at hl
      split at hl
      · rename_i hfit
        obtain ⟨hfit, hyn⟩ := hfit
        cases hl
        refine ⟨ob, _, rfl, by simp [hob], rfl, ?_⟩
        obtain ⟨h1, h2, h3⟩ := SV.cellsOf_rd (P := P) h.objs hcs hb hy
        obtain ⟨vs, ty, hh, hlen, hone, hr, hS⟩ := h.objs ob _ hob
        have hrun := exec_store (P := P) (w := w) ho hx.addr_inv hn (by omega) h2 hh (by omega)
        refine opOk_skip hrun ((h.setBlock (hm ob _ hob) hob (b0 := ρ.blk ob) rfl rfl (by intro _ hh; exact hh) hS (fun b hb' => setRow_other w _ b _ hb') rfl rfl rfl (by simp) fun hk => ?_).put (by rw [SState.tmps_setObj]; exact hd) .junk)
        have hyl : (a.eval y).cells.toList.length = ys.length := by simpa using h1
        refine ⟨_, ty, setRow_heap w _ _ _ _ _ hh, ?_, ?_, ?_, hS⟩
        · simp only [List.size_toArray, List.length_append, List.length_take, List.length_drop, Array.length_toList, h1, hlen]
          omega
        · intro i v hv
          rw [← hyn, ← hyl] at hv
          simp only [List.getElem?_toArray] at hv
          rw [splice_get _ _ _ (by simp [h1, hlen]; omega)] at hv
          split at hv
          · exact hone i v (by simpa using hv)
          · split at hv
            · exact h2 _ v (by simpa using hv)
            · exact hone i v (by simpa using hv)
        · intro i v c hv hc
          rw [← hyn, ← hyl] at hv
          simp only [List.getElem?_toArray] at hv
          rw [splice_get _ _ _ (by simp [h1, hlen]; omega)] at hv
          rw [splice_get _ _ _ hfit] at hc
          rw [hyl] at hv
          have hold : ∀ {v c}, vs.toList[i]? = some v → cs[i]? = some c → SRd (w.setRow (ρ.blk ob) (vs.toList.take off ++ (a.eval y).cells.toList ++ vs.toList.drop (off + n)).toArray) ρ env v c :=
            fun hv hc => (hr i _ _ (by simpa using hv) hc).keep hk (Rho.More.refl ρ fun _ => False) fun _ hf => hf.elim
          split at hv
          · rename_i hi; rw [if_pos hi] at hc; exact hold hv hc
          · rename_i hi
            rw [if_neg hi] at hc
            split at hv
            · rename_i hj; rw [if_pos hj] at hc
              exact (h3 _ v c (by simpa using hv) hc).keep hk (Rho.More.refl ρ fun _ => False) fun _ hf => hf.elim
            · rename_i hj; rw [if_neg hj] at hc; exact hold hv hc
      · cases hl
    · cases hl
  · rename_i ob i sz off
    split at hl
    · rename_i l sz' hob
      split at hl
      · cases hl
      rename_i hsz
      simp only [Decidable.not_not] at hsz
      subst hsz
      obtain ⟨m, k, hi, hxv⟩ := hx.eaddr_inv
      -- what is written: n cells, that read as the cells of a datum
      have fin : ∀ {y' : E} {dy : D}, y'.eval env = some dy → RdD w ρ.S (a.eval y) dy → dy.cells.length = n → (a.eval y).cells.size = n → (∀ (j : Nat) (u : Value), (a.eval y).cells[j]? = some u → u.oneCell' = true) →
          (∀ (j : Nat) (u : Value) (d : D), (a.eval y).cells[j]? = some u → dy.cells[j]? = some d → d.one = true ∧ RdD w ρ.S u d) → BindOk P env ix (some (.ev (.set l i off y'))) →
          OpOk P o a w w0 X ((σ.setObj ob (some (.row (.sym ix) sz))).put o.dst .junk) env := by
        intro y' dy hey hrd hdl hcl hc1 hcr hbo
        obtain ⟨vs, ty, es, hh, hxl, hz, hvl, hr, hval, hmx, hS⟩ := h.objs ob _ hob
        obtain ⟨dn, he, hix⟩ := hbo
        simp only [E.eval, hxl, hi, hey, Option.bind_some, D.set] at he
        simp only [Int.natCast_nonneg, if_true, Int.toNat_natCast] at he
        cases hem : es[m]? with
        | none => simp [hem] at he
        | some e =>
        simp only [hem, Option.bind_some, Option.map_eq_some_iff] at he
        obtain ⟨e', hput, rfl⟩ := he
        have hme : m < es.length := (List.getElem?_eq_some_iff.1 hem).1
        have hel := hz m e hem
        -- the cells of the new element
        have hnew : off + n ≤ sz ∧ e'.cells = e.cells.take off ++ dy.cells ++ e.cells.drop (off + n) := by
          unfold D.putAt at hput
          split at hput
          · rename_i cs
            split at hput
            · rename_i hle
              cases hput
              have hel : cs.length = sz := hel
              show off + n ≤ sz ∧ cs.take off ++ dy.cells ++ cs.drop (off + dy.cells.length) = cs.take off ++ dy.cells ++ cs.drop (off + n)
              rw [hdl] at hle ⊢
              exact ⟨by omega, rfl⟩
            · cases hput
          · rename_i hna
            split at hput
            · rename_i hoo
              cases hput
              obtain ⟨rfl, h1⟩ := hoo
              have he1 : e.cells = [e] := by cases e <;> first | rfl | exact absurd rfl (hna _)
              have hd1 := D.cells_one h1
              rw [he1] at hel
              rw [hd1] at hdl
              simp at hel hdl
              subst hdl
              rw [he1, hd1]
              exact ⟨by omega, by simp⟩
            · cases hput
        obtain ⟨hon, hcells⟩ := hnew
        have hmsz : m * sz + sz ≤ es.length * sz := by
          have := Nat.mul_le_mul_right sz (show m + 1 ≤ es.length from hme)
          rwa [Nat.add_mul, Nat.one_mul] at this
        have hrun := exec_store (P := P) (w := w) ho hxv hn hcl hc1 hh (by omega)
        refine opOk_skip hrun ((h.setBlock (hm ob _ hob) hob (b0 := ρ.blk ob) rfl rfl (by intro _ hh; exact hh) hS (fun b hb' => setRow_other w _ b _ hb') rfl rfl rfl (by simp) fun hk => ?_).put (by rw [SState.tmps_setObj]; exact hd) .junk)
        have hyl : (a.eval y).cells.toList.length = n := by simpa using hcl
        have hspl : ∀ i, (vs.toList.take (m * sz + off) ++ (a.eval y).cells.toList ++ vs.toList.drop (m * sz + off + n))[i]? = if i < m * sz + off then vs[i]? else if i < m * sz + off + n then (a.eval y).cells[i - (m * sz + off)]? else vs[i]? := by
          intro i
          have := splice_get vs.toList (a.eval y).cells.toList (m * sz + off) (by rw [hyl]; simp; omega) i
          rw [hyl] at this
          simpa using this
        have hcs' : e'.cells.length = sz := by
          rw [hcells]
          simp only [List.length_append, List.length_take, List.length_drop, hdl, hel]
          omega
        refine ⟨_, ty, es.set m e', setRow_heap w _ _ _ _ _ hh, by simp [E.eval, hix], ?_, ?_, ?_, by simpa using hval, by simpa using hmx, hS⟩
        · intro j e2 hj
          by_cases hmj : m = j
          · subst hmj
            simp [hme] at hj
            subst hj
            exact hcs'
          · rw [List.getElem?_set_ne hmj] at hj
            exact hz j e2 hj
        · simp only [List.size_toArray, List.length_append, List.length_take, List.length_drop, Array.length_toList, hcl, hvl, List.length_set]
          omega
        · intro j e2 c d hj hd2
          have hcl2 : c < sz := by
            have hcc := (List.getElem?_eq_some_iff.1 hd2).1
            by_cases hmj : m = j
            · subst hmj
              simp [hme] at hj
              subst hj
              omega
            · rw [List.getElem?_set_ne hmj] at hj
              have := hz j e2 hj; omega
          have hlt : ∀ {j}, j < m → j * sz + sz ≤ m * sz := fun {j} hjm => by
            have := Nat.mul_le_mul_right sz (show j + 1 ≤ m from hjm)
            rwa [Nat.add_mul, Nat.one_mul] at this
          have hgt : ∀ {j}, m < j → m * sz + sz ≤ j * sz := fun {j} hjm => by
            have := Nat.mul_le_mul_right sz (show m + 1 ≤ j from hjm)
            rwa [Nat.add_mul, Nat.one_mul] at this
          simp only [List.getElem?_toArray, hspl]
          have keepv : ∀ {u : Value} {d : D}, RdD w ρ.S u d → RdD (w.setRow (ρ.blk ob) (vs.toList.take (m * sz + off) ++ (a.eval y).cells.toList ++ vs.toList.drop (m * sz + off + n)).toArray) ρ.S u d := fun hu => hu.keep hk (Sets.le_refl _)
          by_cases hmj : m = j
          · subst hmj
            simp [hme] at hj
            subst hj
            rw [hcells, show off + n = off + dy.cells.length from by omega, splice_get _ _ _ (by omega)] at hd2
            split at hd2
            · rename_i hc
              obtain ⟨h1, v, hv, hrv⟩ := hr m e c d hem hd2
              exact ⟨h1, v, by rw [if_pos (by omega)]; exact hv, keepv hrv⟩
            · split at hd2
              · rename_i hc hc2
                have hcy : c - off < (a.eval y).cells.size := by omega
                obtain ⟨h1, h2⟩ := hcr (c - off) _ d (Array.getElem?_eq_getElem hcy) hd2
                refine ⟨h1, (a.eval y).cells[c - off], ?_, keepv h2⟩
                rw [if_neg (by omega), if_pos (by omega), show m * sz + c - (m * sz + off) = c - off from by omega]
                exact Array.getElem?_eq_getElem hcy
              · rename_i hc hc2
                obtain ⟨h1, v, hv, hrv⟩ := hr m e c d hem hd2
                exact ⟨h1, v, by rw [if_neg (by omega), if_neg (by omega)]; exact hv, keepv hrv⟩
          · rw [List.getElem?_set_ne hmj] at hj
            obtain ⟨h1, v, hv, hrv⟩ := hr j e2 c d hj hd2
            refine ⟨h1, v, ?_, keepv hrv⟩
            rcases Nat.lt_or_ge j m with hjm | hjm
            · have := hlt hjm
              rw [if_pos (by omega)]; exact hv
            · have := hgt (show m < j from by omega)
              rw [if_neg (by omega), if_neg (by omega)]; exact hv
      -- a value of one cell
      have one : ∀ {dy : D}, dy.one = true → RdD w ρ.S (a.eval y) dy → (a.eval y).cells.size = 1 ∧ (∀ (j : Nat) (u : Value), (a.eval y).cells[j]? = some u → u.oneCell' = true) ∧
          ∀ (j : Nat) (u : Value) (d : D), (a.eval y).cells[j]? = some u → dy.cells[j]? = some d → d.one = true ∧ RdD w ρ.S u d := by
        intro dy h1 hrd
        have h1v := hrd.one h1
        have hc : (a.eval y).cells = #[a.eval y] := by cases hv : a.eval y <;> first | rfl | (rw [hv] at h1v; simp [Value.oneCell'] at h1v)
        rw [hc, D.cells_one h1]
        refine ⟨rfl, fun j u hu => ?_, fun j u d hu hd' => ?_⟩
        · cases j with
          | zero => simp at hu; subst hu; exact h1v
          | succ j => simp at hu
        · cases j with
          | zero => simp at hu hd'; subst hu hd'; exact ⟨h1, hrd⟩
          | succ j => simp at hu
      split at hl
      · rename_i y'
        split at hl
        · rename_i hn1
          cases hl
          refine ⟨ob, _, rfl, by simp [hob], rfl, ?_⟩
          obtain ⟨dy, hey, hrd, h1⟩ := hy.e_inv
          obtain ⟨ha, hb', hc⟩ := one (h1 rfl) hrd
          exact fin hey hrd (by rw [D.cells_one (h1 rfl)]; simp [hn1]) (by omega) hb' hc hb
        · cases hl
      · rename_i y'
        split at hl
        · rename_i hn1
          cases hl
          refine ⟨ob, _, rfl, by simp [hob], rfl, ?_⟩
          obtain ⟨dy, hey, hrd, _⟩ := hy.e_inv
          have h1 : dy.one = true := by
            obtain ⟨d, he, _⟩ := hb
            simp only [E.eval, hey, Option.bind_some, D.scal] at he
            cases hl' : l.eval env with
            | none => simp [hl'] at he
            | some dl =>
              cases hi' : i.eval env with
              | none => simp [hl', hi'] at he
              | some di =>
                by_cases h1 : dy.one = true
                · exact h1
                · simp [hl', hi', h1] at he
          obtain ⟨ha, hb', hc⟩ := one h1 hrd
          exact fin (y' := .scal y') (by simp [E.eval, hey, D.scal, h1]) hrd (by rw [D.cells_one h1]; simp [hn1]) (by omega) hb' hc hb
        · cases hl
      · rename_i y
        obtain ⟨y', hye, rfl⟩ := Option.map_eq_some_iff.1 hl
        refine ⟨ob, _, rfl, by simp [hob], rfl, ?_⟩
        obtain ⟨dy, hey, hrd⟩ := SV.toE_rd hye hy
        have hag : ∃ cs, dy = .agg cs ∧ cs.length = n := by
          obtain ⟨d, he, _⟩ := hb
          simp only [E.eval, hey, Option.bind_some] at he
          cases hl' : l.eval env with
          | none => simp [hl'] at he
          | some dl =>
            cases hi' : i.eval env with
            | none => simp [hl', hi'] at he
            | some di =>
              cases dy with
              | agg cs =>
                by_cases hcl : cs.length = n
                · exact ⟨cs, rfl, hcl⟩
                · simp [hl', hi', D.aggN, hcl] at he
              | _ => simp [hl', hi', D.aggN] at he
        obtain ⟨cs, rfl, hcl⟩ := hag
        obtain ⟨vs, hve, hvl, ho1, hh⟩ := hrd.agg_inv
        refine fin (y' := .aggN n y') (dy := .agg cs) (by simp [E.eval, hey, D.aggN, hcl]) hrd hcl (by rw [hve]; simp [Value.cells]; omega) (fun j u hu => ?_) (fun j u d hu hd' => ?_) hb
        · rw [hve] at hu
          have hj : j < cs.length := by rw [← hvl]; exact (Array.getElem?_eq_some_iff.1 hu).1
          exact (hh j u _ hu (List.getElem?_eq_getElem hj)).one (ho1 j _ (List.getElem?_eq_getElem hj))
        · rw [hve] at hu
          exact ⟨ho1 j d hd', hh j u d hu hd'⟩
      · cases hl
    · cases hl
  · rename_i p s
    split at hl
    · rename_i cf hx' y' hob hye
      split at hl
      · cases hl
      · rename_i hro
        cases hl
        exact ⟨HID, _, rfl, by simp [hob], rfl, sto_rep ho hn hob (by simpa using hro) hx hye hy h hd hb⟩
    · cases hl
  · cases hl

end
end Go.Am
