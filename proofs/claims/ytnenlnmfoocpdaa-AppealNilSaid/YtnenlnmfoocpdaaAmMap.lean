/-
  Maps of the store.
-/
import Derived.Test.YtnenlnmfoocpdaaAmPub
import Derived.MapKept
set_option linter.unusedSimpArgs false
set_option linter.unusedVariables false
namespace Go.Am
open Go.MapKept (bytes_beq run_findKey heap_set)

/-- what kind of keys a map has -/
def keyKd (P : Program) (t : TypeId) : Option Kd :=
  match kindOf P t with
  | some .int => some .int
  | some .str => some .str
  | some (.agg ks) => some (.agg ks)
  | _ => none

/-- a map's key type, element type, kind of keys -/
def mapTy (P : Program) (t : TypeId) : Option (TypeId × TypeId × Kd) :=
  match P.underlying t with
  | some (.map k e) => (keyKd P k).map fun kd => (k, e, kd)
  | _ => none

def lmapC (P : Program) (o : Oper) (opv : Operand → SV) (hO : Option SObj) (ix : Nat) : Option LRes :=
  match hO with
  | some (.store cf h) =>
    match o.op with
    | .makeMap _ none => if cf.ro then none else some { val := .e (.m4 .fstm h .nil .nil .nil) true, upd := some (HID, .store cf (.sym ix)), bind := some (.ev (.m4 .newm h .nil .nil .nil)) }
    | .mapUpdate t m k x | .insert t m k x => if cf.ro then none else (match mapTy P t, (opv m).toE, (opv k).toE, (opv x).toE with
      | some (_, _, kd), some m', some k', some x' => some { val := .junk, upd := some (HID, .store cf (.sym ix)), bind := some (.ev (.m4 (.put kd) h m' k' x')) }
      | _, _, _, _ => none)
    | .lookup t m k ok => (match mapTy P t, (opv m).toE, (opv k).toE with
      | some (_, e, kd), some m', some k' => (match ((P.info? e).bind (·.zero)).bind D.ofVal, aggT P e with
        | some z, some agg => if ok then some { val := .tup [.e (.tget 0 (.sym ix)) false, .e (.tget 1 (.sym ix)) true], bind := some (.ev (.m4 (.getok kd) h m' k' (.const z))) }
            else some { val := .e (.sym ix) (!agg), bind := some (.ev (.m4 (.get kd agg) h m' k' (.const z))) }
        | _, _ => none)
      | _, _, _ => none)
    | _ => none
  | _ => none

def lmap (P : Program) (o : Oper) (opv : Operand → SV) (obj : Nat → Option SObj) (ix : Nat) : Option LRes :=
  if usesH o = true then lmapC P o opv (obj HID) ix else none

section
variable {P : Program} {w w0 : World} {X : Ent} {a : Act} {σ : SState} {env : List D} {ρ : Rho}

theorem checkFields {cs : Array Value} {n : Nat} {em : Bool} (hn : 0 < n) : ∀ (fs : List Field) (i : Nat) (ks : List Nat), flatFields P i fs = some ks → i + ks.length = cs.size →
    (forIn fs PUnit.unit (fun (f : Field) (_ : PUnit) => (if f.name ≠ "_" then do
      let x ← part f.type cs f.offset
      Instr.checkKey em n f.type x
      pure (ForInStep.yield PUnit.unit)
      else pure (ForInStep.yield PUnit.unit) : Sem (ForInStep PUnit)))).run P w = .ok PUnit.unit w
  | [], i, ks, hf, hl => by simp
  | f :: fs, i, ks, hf, hl => by
    obtain ⟨m, rfl⟩ : ∃ m, n = m + 1 := ⟨n - 1, by omega⟩
    simp only [flatFields] at hf
    split at hf
    · rename_i hc
      obtain ⟨hoff, hname⟩ := hc
      have key : ∀ {ks' : List Nat} {k : TypeDesc}, flatFields P (i + 1) fs = some ks' → ks.length = ks'.length + 1 → P.underlying f.type = some k → aggT P f.type = some false → (∀ v : Value, (Instr.checkKey em (m + 1) f.type v).run P w = .ok () w) →
          (forIn (f :: fs) PUnit.unit (fun (f : Field) (_ : PUnit) => (if f.name ≠ "_" then do
            let x ← part f.type cs f.offset
            Instr.checkKey em (m + 1) f.type x
            pure (ForInStep.yield PUnit.unit)
            else pure (ForInStep.yield PUnit.unit) : Sem (ForInStep PUnit)))).run P w = .ok PUnit.unit w := by
        intro ks' k hks hkl hu hagg hck
        have hil : i < cs.size := by omega
        have hp : (part f.type cs f.offset).run P w = .ok cs[i] w := run_part_one hagg (by rw [hoff]; simp [hil])
        have ih := checkFields (cs := cs) (em := em) (Nat.succ_pos m) fs (i + 1) ks' hks (by omega)
        simp only [List.forIn_cons, Sem.run_bind, hname, ne_eq, not_false_eq_true, if_true, Result.andThen_ok, hp, hck, Sem.run_pure]
        exact ih
      split at hf
      · rename_i q hu
        obtain ⟨ks', hks, rfl⟩ := Option.map_eq_some_iff.1 hf
        exact key hks rfl hu (by unfold aggT; rw [hu]; rfl) fun v => by
          unfold Instr.checkKey
          simp [run_underlying hu, Result.andThen]
      · rename_i hu
        obtain ⟨ks', hks, rfl⟩ := Option.map_eq_some_iff.1 hf
        exact key hks rfl hu (by unfold aggT; rw [hu]; rfl) fun v => by
          unfold Instr.checkKey
          simp [run_underlying hu, Result.andThen]
      · rename_i hu
        obtain ⟨ks', hks, rfl⟩ := Option.map_eq_some_iff.1 hf
        exact key hks rfl hu (by unfold aggT; rw [hu]; rfl) fun v => by
          unfold Instr.checkKey
          simp [run_underlying hu, Result.andThen]
      · cases hf
    · cases hf

theorem keyKd_kind {t : TypeId} {kd : Kd} (h : keyKd P t = some kd) : kindOf P t = some kd ∧ (kd = .int ∨ kd = .str ∨ ∃ ks, kd = .agg ks) := by
  unfold keyKd at h
  split at h <;> cases h <;> exact ⟨by assumption, by simp⟩

theorem kindOf_agg {t : TypeId} {ks : List Nat} (h : kindOf P t = some (.agg ks)) : ∃ fs : Array Field, P.underlying t = some (.struct fs) ∧ P.stoodInHeld t = false ∧ flatFields P 0 fs.toList = some ks := by
  unfold kindOf at h
  split at h <;> simp at h
  rename_i fs hu
  unfold flatStruct at h
  rw [hu] at h
  simp only at h
  split at h
  · rename_i hc
    exact ⟨fs, hu, hc.1, h⟩
  · cases h

theorem kindOf_int {t : TypeId} (h : kindOf P t = some .int) : ∃ q, P.underlying t = some (.int q) := by
  unfold kindOf at h
  split at h <;> simp at h
  exact ⟨_, by assumption⟩

theorem kindOf_str {t : TypeId} (h : kindOf P t = some .str) : P.underlying t = some .string := by
  unfold kindOf at h
  split at h <;> simp at h
  assumption

theorem run_checkKd {t : TypeId} {kd : Kd} {v : Value} {d : D} {em : Bool} {S : Sets} (h : keyKd P t = some kd) (hr : RdD w S v d) (hd : D.keyOk kd d = true) : (Instr.checkKey em 10000 t v).run P w = .ok () w := by
  obtain ⟨hk, hc⟩ := keyKd_kind h
  rcases hc with rfl | rfl | ⟨ks, rfl⟩
  · obtain ⟨q, hu⟩ := kindOf_int hk
    unfold Instr.checkKey
    simp [run_underlying hu, Result.andThen]
  · have hu := kindOf_str hk
    unfold Instr.checkKey
    simp [run_underlying hu, Result.andThen]
  · obtain ⟨fs, hu, _, hfl⟩ := kindOf_agg hk
    cases d <;> simp [D.keyOk] at hd
    rename_i ds
    obtain ⟨vs, rfl, hl, _⟩ := hr.agg_inv
    unfold Instr.checkKey
    simp only [Sem.run_bind, run_underlying hu, Result.andThen_ok]
    rw [← Array.forIn_toList]
    rw [checkFields (cs := vs) (by omega) fs.toList 0 ks hfl (by omega)]
    rfl

theorem equal_agg {t : TypeId} {ks : List Nat} {v u : Value} {dx dy : List D} {b : Bool} {S : Sets} (hk : kindOf P t = some (.agg ks)) (hx : RdD w S v (.agg dx)) (hy : RdD w S u (.agg dy)) (hb : D.eqs ks dx dy = some b) : (Op.equal t v u).run P w = .ok b w := by
  obtain ⟨fs, hu, hst, hfl⟩ := kindOf_agg hk
  obtain ⟨xs, rfl, hxl, _, hxr⟩ := hx.agg_inv
  obtain ⟨ys, rfl, hyl, _, hyr⟩ := hy.agg_inv
  have hfo : P.fieldsOf t = fs := by simp [Program.fieldsOf, hu]
  show (Op.equalIn 10000 t (.agg xs) (.agg ys)).run P w = .ok b w
  rw [run_equalIn_agg w 9999 t xs ys (by rw [hfo]; exact hu) hst, hfo]
  exact run_eqFields (d := 9998) hxl hyl hxr hyr fs.toList 0 ks b hfl (by simpa using hb)

theorem keyEq_some {kd : Kd} {x y : D} {b : Bool} (h : D.keyEq kd x y = some b) : D.bin .eql kd x y = some (.v (.bool b)) := by
  unfold D.keyEq at h
  split at h
  · rename_i e; cases h; exact e
  · cases h

theorem bin_eql_int {x y : D} {b : Bool} (h : D.bin .eql .int x y = some (.v (.bool b))) : ∃ k m n, x = .v (.int k m) ∧ y = .v (.int k n) ∧ b = (m == n) := by
  unfold D.bin at h
  split at h <;> (try contradiction)
  · rename_i k m k' n
    simp only [cmpI] at h
    split at h
    · rename_i hk
      subst hk
      cases h
      exact ⟨_, _, _, rfl, rfl, rfl⟩
    · cases h

theorem bin_eql_str {x y : D} {b : Bool} (h : D.bin .eql .str x y = some (.v (.bool b))) : ∃ m n, x = .v (.string m) ∧ y = .v (.string n) ∧ b = (m.toList == n.toList) := by
  unfold D.bin at h
  split at h <;> (try contradiction)
  · cases h
    exact ⟨_, _, rfl, rfl, rfl⟩

theorem bin_eql_agg {ks : List Nat} {x y : D} {b : Bool} (h : D.bin .eql (.agg ks) x y = some (.v (.bool b))) : ∃ dx dy, x = .agg dx ∧ y = .agg dy ∧ D.eqs ks dx dy = some b := by
  unfold D.bin at h
  split at h <;> (try contradiction)
  · rename_i hh
    cases hh
    obtain ⟨b', hb', hb⟩ := Option.map_eq_some_iff.1 h
    cases hb
    exact ⟨_, _, rfl, rfl, hb'⟩

theorem bytesEq (m n : ByteArray) : (m == n) = (m.toList == n.toList) := by
  apply Bool.eq_iff_iff.2
  rw [bytes_beq]
  constructor
  · rintro rfl; simp
  · intro h
    have := eq_of_beq h
    have hd : m.data = n.data := by simpa [ByteArray.toList_eq] using this
    cases m
    cases n
    simp only at hd
    rw [hd]

/-- what the comparison of two keys says -/
def NowKd (P : Program) (w : World) (t : TypeId) (v u : Value) (b : Bool) : Kd → Prop
  | .agg _ => (Op.equal t v u).run P w = .ok b w
  | _ => ∃ k, P.underlying t = some k ∧ Instr.sameNow k v u = some b

def FindKd (P : Program) (w : World) (t : TypeId) (v : Value) (es : List MapEntry) (i : Nat) (r : Option (Nat × Value)) : Kd → Prop
  | .agg _ => (Instr.findAsking t v es i).run P w = .ok r w
  | _ => ∃ k, P.underlying t = some k ∧ Instr.findNow k v es i = some r

theorem nowKd {S : Sets} {t : TypeId} {kd : Kd} {v u : Value} {d dk : D} {b : Bool} (h : keyKd P t = some kd) (hr : RdD w S v d) (hek : RdD w S u dk) (hb : D.keyEq kd d dk = some b) : NowKd P w t v u b kd := by
  have hb := keyEq_some hb
  obtain ⟨hk, hc⟩ := keyKd_kind h
  rcases hc with rfl | rfl | ⟨ks, rfl⟩
  · obtain ⟨q, hu⟩ := kindOf_int hk
    obtain ⟨k, m, n, rfl, rfl, rfl⟩ := bin_eql_int hb
    rw [hr.v_eq, hek.v_eq]
    exact ⟨_, hu, by simp [Instr.sameNow]⟩
  · have hu := kindOf_str hk
    obtain ⟨m, n, rfl, rfl, rfl⟩ := bin_eql_str hb
    rw [hr.v_eq, hek.v_eq]
    exact ⟨_, hu, by simp only [Instr.sameNow, Option.some.injEq]; exact bytesEq m n⟩
  · obtain ⟨dx, dy, rfl, rfl, hb'⟩ := bin_eql_agg hb
    exact equal_agg hk hr hek hb'

/-- two lists of entries, the one as data -/
def EntsRd (w : World) (S : Sets) (es : List MapEntry) (kvs : List D) : Prop :=
  es.length = kvs.length ∧ ∀ (j : Nat) (e : MapEntry) (kv : D), es[j]? = some e → kvs[j]? = some kv → ∃ dk dv, kv = .tup [dk, dv] ∧ RdD w S e.key dk ∧ RdD w S e.val dv

theorem EntsRd.tail {S : Sets} {e : MapEntry} {es : List MapEntry} {kv : D} {kvs : List D} (h : EntsRd w S (e :: es) (kv :: kvs)) : EntsRd w S es kvs :=
  ⟨by simpa using h.1, fun j e kv h1 h2 => h.2 (j + 1) e kv (by simpa using h1) (by simpa using h2)⟩

theorem findKd {S : Sets} {t : TypeId} {kd : Kd} {v : Value} {d : D} (h : keyKd P t = some kd) (hr : RdD w S v d) : ∀ (es : List MapEntry) (kvs : List D) (i : Nat) (r : Option (Nat × D)), EntsRd w S es kvs → D.mfind kd d kvs i = some r →
    (r = none ∧ FindKd P w t v es i none kd) ∨ ∃ j dv e dk, r = some (j, dv) ∧ FindKd P w t v es i (some (j, e.val)) kd ∧ i ≤ j ∧ es[j - i]? = some e ∧ RdD w S e.val dv ∧ RdD w S e.key dk ∧ D.keyEq kd d dk = some true
  | [], [], i, r, _, hf => by
    simp only [D.mfind] at hf
    cases hf
    obtain ⟨hk, hc⟩ := keyKd_kind h
    rcases hc with rfl | rfl | ⟨ks, rfl⟩
    · obtain ⟨q, hu⟩ := kindOf_int hk
      exact .inl ⟨rfl, _, hu, rfl⟩
    · exact .inl ⟨rfl, _, kindOf_str hk, rfl⟩
    · exact .inl ⟨rfl, by simp [FindKd, Instr.findAsking]⟩
  | e :: es, kv :: kvs, i, r, he, hf => by
    obtain ⟨dk, dv, rfl, hek, hev⟩ := he.2 0 e kv rfl rfl
    simp only [D.mfind] at hf
    obtain ⟨hk, hc⟩ := keyKd_kind h
    split at hf
    · rename_i hb
      cases hf
      have hn := nowKd h hr hek hb
      refine .inr ⟨i, dv, e, dk, rfl, ?_, Nat.le_refl _, by simp, hev, hek, hb⟩
      rcases hc with rfl | rfl | ⟨ks, rfl⟩
      · obtain ⟨k, hu, hs⟩ := hn
        exact ⟨k, hu, by simp [Instr.findNow, hs]⟩
      · obtain ⟨k, hu, hs⟩ := hn
        exact ⟨k, hu, by simp [Instr.findNow, hs]⟩
      · have hn : (Op.equal t v e.key).run P w = .ok true w := hn
        simp [FindKd, Instr.findAsking, hn]
    · rename_i hb
      have hn := nowKd h hr hek hb
      have step : ∀ r', FindKd P w t v es (i + 1) r' kd → FindKd P w t v (e :: es) i r' kd := by
        intro r' h1
        rcases hc with rfl | rfl | ⟨ks, rfl⟩
        · obtain ⟨k, hu, hs⟩ := hn
          obtain ⟨k', hu', h1⟩ := h1
          rw [hu] at hu'
          cases hu'
          exact ⟨k, hu, by simp [Instr.findNow, hs, h1]⟩
        · obtain ⟨k, hu, hs⟩ := hn
          obtain ⟨k', hu', h1⟩ := h1
          rw [hu] at hu'
          cases hu'
          exact ⟨k, hu, by simp [Instr.findNow, hs, h1]⟩
        · have hn : (Op.equal t v e.key).run P w = .ok false w := hn
          have h1 : (Instr.findAsking t v es (i + 1)).run P w = .ok r' w := h1
          simp [FindKd, Instr.findAsking, hn, h1]
      rcases findKd h hr es kvs (i + 1) r he.tail hf with ⟨g1, g2⟩ | ⟨j, dv', e', dk', g1, g2, g3, g4, g5⟩
      · exact .inl ⟨g1, step _ g2⟩
      · refine .inr ⟨j, dv', e', dk', g1, step _ g2, by omega, ?_, g5⟩
        rw [show j - i = (j - (i + 1)) + 1 from by omega]
        simpa using g4
    · cases hf
  | [], _ :: _, _, _, he, _ | _ :: _, [], _, _, he, _ => by simp [EntsRd] at he

theorem run_findKd {t : TypeId} {kd : Kd} {v : Value} {es : List MapEntry} {r : Option (Nat × Value)} (h : keyKd P t = some kd) (hf : FindKd P w t v es 0 r kd) : (Instr.findKey t v es).run P w = .ok r w := by
  obtain ⟨hk, hc⟩ := keyKd_kind h
  rcases hc with rfl | rfl | ⟨ks, rfl⟩
  · obtain ⟨k, hu, hs⟩ := hf
    exact run_findKey hu hs
  · obtain ⟨k, hu, hs⟩ := hf
    exact run_findKey hu hs
  · obtain ⟨fs, hu, _⟩ := kindOf_agg hk
    cases es with
    | nil =>
      have : r = none := by
        have hf : (Instr.findAsking t v [] 0).run P w = .ok r w := hf
        simp [Instr.findAsking] at hf
        exact hf.symm
      subst this
      exact run_findKey hu rfl
    | cons e es =>
      have hf : (Instr.findAsking t v (e :: es) 0).run P w = .ok r w := hf
      have hn : Instr.findNow (.struct fs) v (e :: es) 0 = none := by
        unfold Instr.findNow
        simp [Instr.sameNow]
      simp only [Instr.findKey, Sem.run_bind, run_underlying hu, Result.andThen_ok, hn, hf]

theorem mlook_run {S : Sets} {t : TypeId} {kd : Kd} {v : Value} {d : D} {es : List MapEntry} {kvs : List D} {r : Option (Nat × D)} (h : keyKd P t = some kd) (hr : RdD w S v d) (he : EntsRd w S es kvs) (hf : D.mlook kd d kvs = some r) :
    D.keyOk kd d = true ∧ ((r = none ∧ (Instr.findKey t v es).run P w = .ok none w) ∨ ∃ j dv e dk, r = some (j, dv) ∧ (Instr.findKey t v es).run P w = .ok (some (j, e.val)) w ∧ es[j]? = some e ∧ RdD w S e.val dv ∧ RdD w S e.key dk ∧ D.keyEq kd d dk = some true) := by
  unfold D.mlook at hf
  split at hf
  · rename_i hok
    refine ⟨hok, ?_⟩
    rcases findKd h hr es kvs 0 r he hf with ⟨g1, g2⟩ | ⟨j, dv, e, dk, g1, g2, _, g3, g4⟩
    · exact .inl ⟨g1, run_findKd h g2⟩
    · exact .inr ⟨j, dv, e, dk, g1, run_findKd h g2, g3, g4⟩
  · cases hf

theorem sameBits_eq {S : Sets} {t : TypeId} {kd : Kd} {v u : Value} {d dk : D} (h : keyKd P t = some kd) (hr : RdD w S v d) (hek : RdD w S u dk) (hb : D.keyEq kd d dk = some true) : Instr.sameBits 10000 u v = true := by
  have hb := keyEq_some hb
  obtain ⟨hk, hc⟩ := keyKd_kind h
  rcases hc with rfl | rfl | ⟨ks, rfl⟩
  · obtain ⟨k, m, n, rfl, rfl, hmn⟩ := bin_eql_int hb
    rw [hr.v_eq, hek.v_eq]
    have : m = n := by simpa using hmn.symm
    simp [Instr.sameBits, this]
  · obtain ⟨m, n, rfl, rfl, hmn⟩ := bin_eql_str hb
    rw [hr.v_eq, hek.v_eq]
    rw [← bytesEq] at hmn
    have : m = n := (bytes_beq m n).1 hmn.symm
    subst this
    have hh : (m == m) = true := (bytes_beq m m).2 rfl
    simp [Instr.sameBits, hh]
  · obtain ⟨dx, dy, rfl, rfl, hb'⟩ := bin_eql_agg hb
    obtain ⟨xs, rfl, hxl, _, hxr⟩ := hr.agg_inv
    obtain ⟨ys, rfl, hyl, _, hyr⟩ := hek.agg_inv
    -- cell by cell
    have cells : ∀ (ks : List Nat) (dx dy : List D), D.eqs ks dx dy = some true → dx.length = dy.length ∧ ∀ (i : Nat) (x y : D), dx[i]? = some x → dy[i]? = some y → ∀ u v : Value, RdD w S v x → RdD w S u y → Instr.sameBits 9999 u v = true := by
      intro ks
      induction ks with
      | nil =>
        intro dx dy he
        cases dx <;> cases dy <;> simp [D.eqs] at he ⊢
      | cons k ks ih =>
        intro dx dy he
        unfold D.eqs at he
        split at he <;> (try contradiction)
        · rename_i ks1 k1 a r k2 b s e1 
          split at he
          · rename_i hkk
            subst hkk
            obtain ⟨b', h1, h2⟩ := Option.map_eq_some_iff.1 he
            simp only [Bool.and_eq_true, beq_iff_eq] at h2
            obtain ⟨rfl, rfl⟩ := h2
            have e2 : ks = ks1 := by simp only [List.cons.injEq] at e1; exact e1.2
            subst e2
            obtain ⟨g1, g2⟩ := ih r s h1
            refine ⟨by simp [g1], fun i x y hx hy u v hv hu => ?_⟩
            cases i with
            | zero =>
              simp only [List.getElem?_cons_zero, Option.some.injEq] at hx hy
              subst hx hy
              rw [hv.v_eq, hu.v_eq]
              simp [Instr.sameBits]
            | succ i => exact g2 i x y (by simpa using hx) (by simpa using hy) u v hv hu
          · cases he
        · rename_i ks1 a r b s e1
          obtain ⟨b', h1, h2⟩ := Option.map_eq_some_iff.1 he
          simp only [Bool.and_eq_true, beq_iff_eq] at h2
          obtain ⟨rfl, rfl⟩ := h2
          have e2 : ks = ks1 := by simp only [List.cons.injEq] at e1; exact e1.2
          subst e2
          obtain ⟨g1, g2⟩ := ih r s h1
          refine ⟨by simp [g1], fun i x y hx hy u v hv hu => ?_⟩
          cases i with
          | zero =>
            simp only [List.getElem?_cons_zero, Option.some.injEq] at hx hy
            subst hx hy
            rw [hv.v_eq, hu.v_eq]
            simp [Instr.sameBits]
          | succ i => exact g2 i x y (by simpa using hx) (by simpa using hy) u v hv hu
        · rename_i ks1 a r b s e1
          obtain ⟨b', h1, h2⟩ := Option.map_eq_some_iff.1 he
          simp only [Bool.and_eq_true] at h2
          obtain ⟨hab, rfl⟩ := h2
          rw [← bytesEq] at hab
          have hab := (bytes_beq a b).1 hab
          subst hab
          have hh : (a == a) = true := (bytes_beq a a).2 rfl
          have e2 : ks = ks1 := by simp only [List.cons.injEq] at e1; exact e1.2
          subst e2
          obtain ⟨g1, g2⟩ := ih r s h1
          refine ⟨by simp [g1], fun i x y hx hy u v hv hu => ?_⟩
          cases i with
          | zero =>
            simp only [List.getElem?_cons_zero, Option.some.injEq] at hx hy
            subst hx hy
            rw [hv.v_eq, hu.v_eq]
            simp [Instr.sameBits, hh]
          | succ i => exact g2 i x y (by simpa using hx) (by simpa using hy) u v hv hu
    obtain ⟨g1, g2⟩ := cells ks dx dy hb'
    unfold Instr.sameBits
    simp only [Bool.and_eq_true, beq_iff_eq, List.all_eq_true]
    refine ⟨by omega, fun p hp => ?_⟩
    obtain ⟨i, hi, hpi⟩ := List.mem_iff_getElem.1 hp
    simp only [List.length_zip, Array.length_toList] at hi
    simp only [List.getElem_zip] at hpi
    subst hpi
    refine g2 i (dx[i]'(by omega)) (dy[i]'(by omega)) (by simp) (by simp) _ _ (hxr i _ _ ?_ ?_) (hyr i _ _ ?_ ?_) <;> simp

/-- a map of the store has other entries -/
theorem stOk_setM {w' : World} {bs : List D} {i : Nat} {kvs kvs' : List D} {es' : Array MapEntry} {clock' : Nat} (hst : StOk w ρ.S ρ.foot bs) (hK : Keeps ρ.S w w') (hbs : bs[i]? = some (.mblk kvs)) (hh : w'.heap[ρ.S.loc i]? = some (.map es' clock')) (hother : ∀ b, b ≠ ρ.S.loc i → w'.heap[b]? = w.heap[b]?) (he : EntsRd w ρ.S es'.toList kvs') :
    StOk w' ρ.S ρ.foot (bs.set i (.mblk kvs')) := by
  refine ⟨by rw [hst.n]; simp, fun i' e sz cs hi' => ?_, hst.nos, fun i' kvs2 hi' => ?_, fun i' j' x' y' hi' hj' hx' hy' hl => ?_⟩
  · rw [List.getElem?_set] at hi'
    split at hi'
    · rename_i hii
      subst hii
      simp [(List.getElem?_eq_some_iff.1 hbs).1] at hi'
    · rename_i hii
      obtain ⟨hf', vs', hh', hsz', hlen', hone', hr', hns'⟩ := hst.cells i' _ _ _ hi'
      refine ⟨hf', vs', ?_, hsz', hlen', hone', fun j v d hv hd' => (hr' j v d hv hd').keep hK (Sets.le_refl _), hns'⟩
      rw [hother _ fun e => hii (hst.inj i i' _ _ hbs hi' rfl rfl e.symm)]
      exact hh'
  · rw [List.getElem?_set] at hi'
    split at hi'
    · rename_i hii
      subst hii
      simp only [(List.getElem?_eq_some_iff.1 hbs).1, if_true, Option.some.injEq, D.mblk.injEq] at hi'
      subst hi'
      obtain ⟨hf, _, _, _, _, hns, _⟩ := hst.maps i _ hbs
      refine ⟨hf, es', clock', hh, by simpa using he.1, hns, fun j e kv hj hkv => ?_⟩
      obtain ⟨dk, dv, h1, h2, h3⟩ := he.2 j e kv (by simpa using hj) hkv
      exact ⟨dk, dv, h1, h2.keep hK (Sets.le_refl _), h3.keep hK (Sets.le_refl _)⟩
    · rename_i hii
      obtain ⟨hf', es, clock, hh', hsz', hns', hr'⟩ := hst.maps i' _ hi'
      refine ⟨hf', es, clock, ?_, hsz', hns', fun j e kv he hkv => ?_⟩
      · rw [hother _ fun e => hii (hst.inj i i' _ _ hbs hi' rfl rfl e.symm)]
        exact hh'
      · obtain ⟨dk, dv, h1, h2, h3⟩ := hr' j e kv he hkv
        exact ⟨dk, dv, h1, h2.keep hK (Sets.le_refl _), h3.keep hK (Sets.le_refl _)⟩
  · have old : ∀ {k : Nat} {z : D}, (bs.set i (.mblk kvs'))[k]? = some z → z.live = true → ∃ z', bs[k]? = some z' ∧ z'.live = true := by
      intro k z hk hz
      rw [List.getElem?_set] at hk
      split at hk
      · rename_i hik; subst hik; exact ⟨_, hbs, rfl⟩
      · exact ⟨_, hk, hz⟩
    obtain ⟨_, h1, h1'⟩ := old hi' hx'
    obtain ⟨_, h2, h2'⟩ := old hj' hy'
    exact hst.inj i' j' _ _ h1 h2 h1' h2' hl

/-- a map's entries, and their data -/
theorem entries_rd {bs kvs : List D} {m : Value} {dm : D} (hst : StOk w ρ.S ρ.foot bs) (hm : RdD w ρ.S m dm) (he : D.entries (.st bs) dm = some kvs) :
    (m = .map none ∧ kvs = []) ∨ ∃ (i : Nat) (es : Array MapEntry) (clock : Nat), dm = .mp i ∧ bs[i]? = some (.mblk kvs) ∧ m = .map (some (ρ.S.loc i)) ∧ w.heap[ρ.S.loc i]? = some (.map es clock) ∧ EntsRd w ρ.S es.toList kvs := by
  unfold D.entries at he
  split at he
  · cases he
    exact .inl ⟨hm.v_eq, rfl⟩
  · rename_i i
    simp only at he
    split at he
    · rename_i kvs' hbs
      cases he
      obtain ⟨hf, es, clock, hh, hsz, hns, hr⟩ := hst.maps i _ hbs
      refine .inr ⟨i, es, clock, rfl, hbs, ?_, hh, by simpa using hsz, fun j e kv h1 h2 => hr j e kv (by simpa using h1) h2⟩
      cases hm
      rfl
    · cases he
  · cases he

theorem mapTy_spec {t k e : TypeId} {kd : Kd} (h : mapTy P t = some (k, e, kd)) : P.underlying t = some (.map k e) ∧ keyKd P k = some kd := by
  unfold mapTy at h
  split at h
  · rename_i k' e' hu
    obtain ⟨kd', hk, h⟩ := Option.map_eq_some_iff.1 h
    cases h
    exact ⟨hu, hk⟩
  · cases h

theorem lookup_run {t k e : TypeId} {kd : Kd} {bs kvs : List D} {m v z : Value} {dm d : D} {ok : Bool} {r : Option (Nat × D)} (hst : StOk w ρ.S ρ.foot bs) (ht : mapTy P t = some (k, e, kd)) (hm : RdD w ρ.S m dm) (hv : RdD w ρ.S v d) (he : D.entries (.st bs) dm = some kvs) (hf : D.mlook kd d kvs = some r) (hz : (P.info? e).bind (·.zero) = some z) :
    ∃ x : Value, (Instr.lookup t m v ok).run P w = .ok (if ok then .tuple #[x, .bool r.isSome] else x) w ∧ ((r = none ∧ x = z) ∨ ∃ j dv, r = some (j, dv) ∧ RdD w ρ.S x dv) := by
  obtain ⟨hu, hk⟩ := mapTy_spec ht
  rcases entries_rd hst hm he with ⟨rfl, rfl⟩ | ⟨i, es, clock, rfl, hbs, rfl, hh, hes⟩
  · obtain ⟨hok, hr⟩ := mlook_run (es := []) hk hv ⟨rfl, by simp⟩ hf
    rcases hr with ⟨rfl, hrun⟩ | ⟨j, dv, e', dk, _, _, h3, _⟩
    · refine ⟨z, ?_, .inl ⟨rfl, rfl⟩⟩
      have hck : (Instr.checkKey (#[] : Array MapEntry).isEmpty 10000 k v).run P w = .ok () w := run_checkKd hk hv hok
      simp only [Instr.lookup, Sem.run_bind, run_underlying hu, Result.andThen_ok, Sem.run_pure, hck, hrun, run_zeroValue hz, Option.isSome_none]
    · simp at h3
  · obtain ⟨hok, hr⟩ := mlook_run hk hv hes hf
    have hck : (Instr.checkKey es.isEmpty 10000 k v).run P w = .ok () w := run_checkKd hk hv hok
    rcases hr with ⟨rfl, hrun⟩ | ⟨j, dv, e', dk, rfl, hrun, h3, h4, _⟩
    · refine ⟨z, ?_, .inl ⟨rfl, rfl⟩⟩
      simp only [Instr.lookup, Sem.run_bind, run_underlying hu, Result.andThen_ok, Sem.run_pure, Go.MapKept.run_getObj_map hh, hck, hrun, run_zeroValue hz, Option.isSome_none]
    · refine ⟨e'.val, ?_, .inr ⟨j, dv, rfl, h4⟩⟩
      simp only [Instr.lookup, Sem.run_bind, run_underlying hu, Result.andThen_ok, Sem.run_pure, Go.MapKept.run_getObj_map hh, hck, hrun, Option.isSome_some]

theorem update_run {t k e : TypeId} {kd : Kd} {bs : List D} {i : Nat} {v x : Value} {d dx : D} {m : Value} {d' : D} (hst : StOk w ρ.S ρ.foot bs) (ht : mapTy P t = some (k, e, kd)) (hm : RdD w ρ.S m (.mp i)) (hv : RdD w ρ.S v d) (hx : RdD w ρ.S x dx) (hput : D.mput kd (.st bs) (.mp i) d dx = some d') :
    ∃ (kvs' : List D) (es' : Array MapEntry) (clock' : Nat), (∃ kvs, bs[i]? = some (.mblk kvs)) ∧ d' = .st (bs.set i (.mblk kvs')) ∧ (Instr.mapUpdate t m v x).run P w = .ok () { w with heap := w.heap.setIfInBounds (ρ.S.loc i) (.map es' clock') } ∧ EntsRd w ρ.S es'.toList kvs' := by
  obtain ⟨hu, hk⟩ := mapTy_spec ht
  unfold D.mput at hput
  simp only at hput
  split at hput
  · rename_i kvs hbs
    obtain ⟨r, hf, hput⟩ := Option.map_eq_some_iff.1 hput
    have he : D.entries (.st bs) (.mp i) = some kvs := by simp [D.entries, hbs]
    rcases entries_rd hst hm he with ⟨rfl, _⟩ | ⟨i', es, clock, e1, hbs', rfl, hh, hes⟩
    · cases hm
    cases e1
    obtain ⟨hok, hr⟩ := mlook_run hk hv hes hf
    have hck : (Instr.checkKey false 10000 k v).run P w = .ok () w := run_checkKd hk hv hok
    rcases hr with ⟨rfl, hrun⟩ | ⟨j, dv, e', dk, rfl, hrun, h3, h4, h5, h6⟩
    · simp only at hput
      subst hput
      refine ⟨_, es.push { key := v, val := x, born := clock }, clock + 1, ⟨_, hbs⟩, rfl, ?_, ?_, ?_⟩
      · simp only [Instr.mapUpdate, Sem.run_bind, run_underlying hu, Result.andThen_ok, Go.MapKept.run_getObj_map hh, hck, hrun, Go.MapKept.run_setObj_map _ hh]
      · simp [hes.1]
      · intro j e2 kv hj hkv
        simp only [Array.toList_push] at hj
        rw [List.getElem?_append] at hj hkv
        rw [hes.1] at hj
        split at hj
        · rename_i hlt
          rw [if_pos hlt] at hkv
          exact hes.2 j e2 kv hj hkv
        · rename_i hlt
          rw [if_neg hlt] at hkv
          have h0 : j - kvs.length = 0 := by
            have := (List.getElem?_eq_some_iff.1 hj).1
            simp at this
            omega
          rw [h0] at hj hkv
          simp only [List.getElem?_cons_zero, Option.some.injEq] at hj hkv
          subst hj hkv
          exact ⟨_, _, rfl, hv, hx⟩
    · simp only at hput
      subst hput
      have hjl : j < es.size := by simpa using (List.getElem?_eq_some_iff.1 h3).1
      have hkey : ((es[j]?).map (·.key)).getD v = e'.key := by
        have : es[j]? = some e' := by simpa using h3
        simp [this]
      have hstay : (Instr.keyThatStays e'.key v).run P w = .ok v w := by
        simp [Instr.keyThatStays, sameBits_eq hk hv h5 h6]
      refine ⟨_, es.modify j fun e => { e with key := v, val := x }, clock, ⟨_, hbs⟩, rfl, ?_, ?_, ?_⟩
      · simp only [Instr.mapUpdate, Sem.run_bind, run_underlying hu, Result.andThen_ok, Go.MapKept.run_getObj_map hh, hck, hrun, hkey, hstay, Go.MapKept.run_setObj_map _ hh]
      · simpa using hes.1
      · intro q e2 kv hq hkv
        simp only [Array.getElem?_toList, Array.getElem?_modify] at hq
        rw [List.getElem?_set] at hkv
        by_cases hjq : j = q
        · subst hjq
          rw [if_pos rfl] at hq hkv
          rw [if_pos (by rw [← hes.1]; simpa using hjl)] at hkv
          obtain ⟨e0, he0, rfl⟩ := Option.map_eq_some_iff.1 hq
          cases hkv
          exact ⟨_, _, rfl, hv, hx⟩
        · rw [if_neg hjq] at hq hkv
          exact hes.2 q e2 kv (by simpa using hq) hkv
  · cases hput

theorem lmap_sound {o : Oper} {opv : Operand → SV} {ix : Nat} {r : LRes} (hv : ∀ x, SRd w ρ env (a.eval x) (opv x)) (hl : lmap P o opv σ.obj ix = some r) (h : Rep w0 X w a σ env ρ) (hd : ∀ d, o.dst = some d → d < σ.tmps.length) (hb : BindOk P env ix r.bind) :
    (r.upd = none ∧ OpOk P o a w w0 X (σ.put o.dst r.val) env) ∨ ∃ z, r.upd = some (HID, z) ∧ OpOk P o a w w0 X ((σ.setObj HID (some z)).put o.dst r.val) env := by
  unfold lmap at hl
  split at hl
  case isFalse => cases hl
  unfold lmapC at hl
  split at hl
  case h_2 => cases hl
  rename_i cf hx hob
  obtain ⟨bs, hbe, hst, _⟩ := h.objs _ _ hob
  -- an update
  have upd : ∀ {t : TypeId} {m k x : Operand} {ty : TypeId × TypeId × Kd} {m' k' x' : E}, (execOp a.eval o).run P w = ((Instr.mapUpdate t (a.eval m) (a.eval k) (a.eval x)).run P w).andThen (fun _ w' => .ok .skip w') → mapTy P t = some ty → (opv m).toE = some m' → (opv k).toE = some k' → (opv x).toE = some x' → cf.ro = false →
      BindOk P env ix (some (.ev (.m4 (.put ty.2.2) hx m' k' x'))) → OpOk P o a w w0 X ((σ.setObj HID (some (.store cf (.sym ix)))).put o.dst .junk) env := by
    rintro t m k x ⟨kt, e, kd⟩ m' k' x' hexec hty hm' hk' hx' hro hb
    obtain ⟨dm, hdm, hrm⟩ := SV.toE_rd hm' (hv m)
    obtain ⟨dk, hdk, hrk⟩ := SV.toE_rd hk' (hv k)
    obtain ⟨dx, hdx, hrx⟩ := SV.toE_rd hx' (hv x)
    obtain ⟨d, he, hix⟩ := hb
    simp only [E.eval, hbe, hdm, hdk, hdx, Option.bind_some, D.m4] at he
    have hmp : ∃ i, dm = .mp i := by
      unfold D.mput at he
      split at he
      · exact ⟨_, rfl⟩
      · cases he
    obtain ⟨i, rfl⟩ := hmp
    obtain ⟨kvs', es', clock', ⟨kvs, hbs⟩, rfl, hrun, hes⟩ := update_run hst hty hrm hrk hrx he
    rw [hrun] at hexec
    obtain ⟨hf, es0, clock0, hh, _, hns, _⟩ := hst.maps i _ hbs
    obtain ⟨g1, g2⟩ := heap_set (o' := .map es' clock') hh
    refine opOk_skip hexec ((h.setBlock (w' := { w with heap := w.heap.setIfInBounds (ρ.S.loc i) (.map es' clock') }) (.inl rfl) hob (b0 := ρ.S.loc i) hf (by simpa [SObj.ro] using hro) (by intro _ hh; exact hh) hns (fun b hb' => g2 b hb') rfl rfl rfl (by simp) fun hk => ?_).put (by rw [SState.tmps_setObj]; exact hd) .junk)
    exact ⟨_, by simp only [E.eval]; exact hix, stOk_setM hst hk hbs g1 g2 hes, rfl⟩
  split at hl
  · rename_i t ho
    split at hl
    · cases hl
    rename_i hro
    have hro : cf.ro = false := by simpa using hro
    cases hl
    obtain ⟨d, he, hix⟩ := hb
    simp only [E.eval, hbe, Option.bind_some, D.m4] at he
    cases he
    have hrun : (execOp a.eval o).run P w = .ok (.value (.map (some w.heap.size))) (w.alloc (.map #[] 0)) := by
      unfold execOp
      simp only [ho, Option.map_none, Sem.run_bind]
      rfl
    obtain ⟨hrep, hn⟩ := h.newStoreG (k := 0) (z := .mblk []) (ob := .map #[] 0) (x' := .sym ix) hob hro hbe (fun e sz cs hz => by cases hz) (fun kvs hz => by cases hz; exact ⟨#[], 0, rfl, rfl, by simp⟩) (by simp only [E.eval]; exact hix)
    refine .inr ⟨_, rfl, opOk_value hrun (hrep.put (by rw [SState.tmps_setObj]; exact hd) ?_)⟩
    refine .e (d := .mp bs.length) (by simp only [E.eval, hbe]; rfl) ?_ fun _ => rfl
    have := RdD.mp (w := w.alloc (.map #[] 0)) (S := ρ.S.more w.heap.size 0) (i := bs.length) (by simp [Sets.more, hn])
    have hl : (ρ.S.more w.heap.size 0).loc bs.length = w.heap.size := by simp [Sets.more, hn]
    rwa [hl] at this
  · rename_i t m k x ho
    split at hl
    · cases hl
    rename_i hro
    split at hl
    · rename_i ty m' k' x' hty hm' hk' hx'
      cases hl
      exact .inr ⟨_, rfl, upd (by unfold execOp; rw [ho]; simp only [Sem.run_bind, Sem.run_pure]) hty hm' hk' hx' (by simpa using hro) hb⟩
    · cases hl
  · rename_i t m k x ho
    split at hl
    · cases hl
    rename_i hro
    split at hl
    · rename_i ty m' k' x' hty hm' hk' hx'
      cases hl
      exact .inr ⟨_, rfl, upd (by unfold execOp; rw [ho]; simp only [Sem.run_bind, Sem.run_pure]) hty hm' hk' hx' (by simpa using hro) hb⟩
    · cases hl
  · rename_i t m k ok ho
    split at hl
    · rename_i kt e kd m' k' hty hm' hk'
      split at hl
      · rename_i z agg hz hagg
        obtain ⟨zv, hzv, hz⟩ := Option.bind_eq_some_iff.1 hz
        obtain ⟨dm, hdm, hrm⟩ := SV.toE_rd hm' (hv m)
        obtain ⟨dk, hdk, hrk⟩ := SV.toE_rd hk' (hv k)
        split at hl
        · rename_i hok
          subst hok
          cases hl
          obtain ⟨d, he, hix⟩ := hb
          simp only [E.eval, hbe, hdm, hdk, Option.bind_some, D.m4, Option.bind_eq_some_iff, Option.map_eq_some_iff] at he
          obtain ⟨kvs, hkvs, rr, hrr, he⟩ := he
          obtain ⟨x, hrun, hx⟩ := lookup_run (ok := true) hst hty hrm hrk hkvs hrr hzv
          have hexec : (execOp a.eval o).run P w = .ok (.value (.tuple #[x, .bool rr.isSome])) w := by
            unfold execOp
            simp only [ho, Sem.run_bind, hrun, Result.andThen_ok, Sem.run_pure, if_true]
          refine .inl ⟨rfl, opOk_value hexec (h.put hd ?_)⟩
          obtain ⟨dd, hdd, hxd⟩ : ∃ dd, d = .tup [dd, .bool rr.isSome] ∧ RdD w ρ.S x dd := by
            rcases hx with ⟨rfl, rfl⟩ | ⟨j, dv, rfl, hdv⟩
            · exact ⟨_, he.symm, D.ofVal_rd hz⟩
            · exact ⟨_, he.symm, hdv⟩
          subst hdd
          refine .tup rfl fun i v c hv' hc => ?_
          match i with
          | 0 =>
            simp at hv' hc
            subst hv' hc
            exact .e (d := dd) (by simp [E.eval, hix, D.tget]) hxd (by simp)
          | 1 =>
            simp at hv' hc
            subst hv' hc
            exact .e (d := .bool rr.isSome) (by simp [E.eval, hix, D.tget]) (.v rfl) (fun _ => rfl)
          | i + 2 => simp at hc
        · rename_i hok
          have hok : ok = false := by simpa using hok
          subst hok
          cases hl
          obtain ⟨d, he, hix⟩ := hb
          simp only [E.eval, hbe, hdm, hdk, Option.bind_some, D.m4, Option.bind_eq_some_iff] at he
          obtain ⟨kvs, hkvs, rr, hrr, he⟩ := he
          obtain ⟨x, hrun, hx⟩ := lookup_run (ok := false) hst hty hrm hrk hkvs hrr hzv
          have hexec : (execOp a.eval o).run P w = .ok (.value x) w := by
            unfold execOp
            simp only [ho, Sem.run_bind, hrun, Result.andThen_ok, Sem.run_pure]
            rfl
          refine .inl ⟨rfl, opOk_value hexec (h.put hd ?_)⟩
          rcases hx with ⟨rfl, rfl⟩ | ⟨j, dv, rfl, hdv⟩
          · simp only at he
            split at he
            · rename_i hone
              cases he
              exact .e hix (D.ofVal_rd hz) fun hag => hone.resolve_left (by simpa using hag)
            · cases he
          · simp only at he
            split at he
            · rename_i hone
              cases he
              exact .e hix hdv fun hag => hone.resolve_left (by simpa using hag)
            · cases he
      · cases hl
    · cases hl
  · cases hl

end
end Go.Am
