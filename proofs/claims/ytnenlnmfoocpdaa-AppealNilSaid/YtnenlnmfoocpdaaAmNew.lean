/-
  Operations that make or change objects by name; one step with all that it does.
-/
import Derived.Test.YtnenlnmfoocpdaaAmRegion
import Derived.Test.YtnenlnmfoocpdaaAmTok
import Derived.Test.YtnenlnmfoocpdaaAmPure
import Derived.Test.YtnenlnmfoocpdaaAmMake
import Derived.Test.YtnenlnmfoocpdaaAmLit
import Derived.Test.YtnenlnmfoocpdaaAmMap
set_option linter.unusedSimpArgs false
set_option linter.unusedVariables false
namespace Go.Am

/-- what an operation does: the value that it yields, the object that is new or other, the object that is gone, what it binds -/
structure Eff where
  val : SV
  upd : Option (Nat × SObj)
  del : Option Nat
  bind : Option Bind
  deriving Inhabited

def LRes.eff (r : LRes) : Eff := ⟨r.val, r.upd, none, r.bind⟩

def SState.dels (σ : SState) : Option Nat → SState
  | none => σ
  | some k => σ.setObj k none

def SState.sets (σ : SState) : Option (Nat × SObj) → SState
  | none => σ
  | some u => σ.setObj u.1 (some u.2)

def SState.app (σ : SState) (dst : Option Tmp) (e : Eff) : SState := ((σ.dels e.del).sets e.upd).put dst e.val

def isNilSlice : Operand → Bool
  | .const (.slice none 0 0) => true
  | _ => false

/-- does it make a new name? -/
def isNew (o : Oper) : Bool :=
  match o.op with
  | .alloc _ | .box _ _ | .buildSlice _ _ _ | .makeSlice _ _ _ => true
  | .assign x => isNilSlice x
  | .call c => (match c.callee with | .builtin .append => true | _ => false)
  | _ => false

def selfOk (o : Oper) (σ : SState) (e : Eff) : Bool :=
  !isNew o || match e.upd with | some u => decide (u.1 = HID) || (o.op.operands.all fun x => (σ.opv [] x).avoids u.1) | none => true

def notH (e : Eff) : Bool := match e.upd with | some u => decide (u.1 ≠ HID) | none => true

theorem notH_spec {e : Eff} (h : notH e = true) {u : Nat × SObj} (hu : e.upd = some u) : u.1 ≠ HID := by
  unfold notH at h
  rw [hu] at h
  simpa using h

def freshFor' (σ : SState) (o : Oper) (e : Eff) : Prop := isNew o = true → ∀ u, e.upd = some u → u.1 ≠ HID → σ.obj u.1 = none ∧ σ.avoids u.1 ∧ ∀ x, x ∈ o.op.operands → (σ.opv [] x).avoids u.1 = true

theorem selfOk_spec {o : Oper} {σ : SState} {e : Eff} (h : selfOk o σ e = true) (hn : isNew o = true) {u : Nat × SObj} (hu : e.upd = some u) (hne : u.1 ≠ HID) : ∀ x, x ∈ o.op.operands → (σ.opv [] x).avoids u.1 = true := by
  simp only [selfOk, hn, hu, Bool.not_true, Bool.false_or, Bool.or_eq_true, decide_eq_true_eq] at h
  exact fun x hx => Array.all_eq_true'.1 (h.resolve_left hne) x hx

/-- a nil slice that may grow -/
def lnilTok (P : Program) (t : TypeId) (dst : Option Tmp) : Option Eff :=
  match dst, P.underlying t with
  | some d, some (.slice e) => (szT P e).map fun n => ⟨.own (.const (.lst [])) d, some (d, .tok e n), none, none⟩
  | _, _ => none

def lappend (P : Program) (t : TypeId) (s x : SV) (dst : Option Tmp) (obj : Nat → Option SObj) (ix : Nat) : Option Eff :=
  match dst, P.underlying t, s with
  | some d, some (.slice e), .own y k => match obj k, P.info? e, x.toE with
    | some (.tok e' size), some i, some x' => match i.zero with
      | some z => if e = e' ∧ i.size = size ∧ z.cells.size = size ∧ 0 < size then some ⟨.own (.sym ix) d, some (d, .tok e size), some k, some (.ev (.app size i.bytes y x'))⟩ else none
      | none => none
    | _, _, _ => none
  | _, _, _ => none

def lnew (P : Program) (o : Oper) (opv : Operand → SV) (obj : Nat → Option SObj) (ix : Nat) : Option Eff :=
  match o.op with
  | .assign x => if isNilSlice x then lnilTok P o.type o.dst else none
  | .makeSlice t n c => (lmake P t (opv n) (opv c) o.dst ix).map LRes.eff
  | .buildSlice t len parts => (llit P t len parts.toList opv o.dst ix).map LRes.eff
  | .call c => match c.callee with
    | .builtin .append => match c.args.toList, c.argTypes.toList with
      | [s, x], [t, t'] => if t = t' then lappend P t (opv s) (opv x) o.dst obj ix else none
      | _, _ => none
    | _ => none
  | _ => none

/-- how missing fields that are nil slices are read -/
def nilsOf (obj : Nat → Option SObj) : Bool := match cfOf obj with | some cf => cf.nils | none => false

/-- operations that change no object -/
def lpure2 (P : Program) (nz : Bool) (o : Oper) (opv : Operand → SV) (ix : Nat) : Option LRes :=
  match o.op with
  | .build t parts => lbuild nz P t parts.toList opv ix
  | _ => lpure P o opv ix

def estep (P : Program) (o : Oper) (opv : List (E × Bool) → Operand → SV) (act : List (E × Bool)) (obj : Nat → Option SObj) (ix : Nat) : Option Eff :=
  match ldat P o (opv act) act obj ix with
  | some r => some r.eff
  | none => match lpub P o (opv []) obj ix with
    | some r => some r.eff
    | none => match lmap P o (opv []) obj ix with
    | some r => some r.eff
    | none => match lnew P o (opv []) obj ix with
      | some e => if notH e then some e else none
      | none => match lpure2 P (nilsOf obj) o (opv act) ix with
        | some r => some r.eff
        | none => (lstep P o opv act obj ix).bind fun r => if !isNew o || notH r.eff then some r.eff else none

section
variable {P : Program} {w w0 : World} {X : Ent} {a : Act} {σ : SState} {env : List D} {ρ : Rho}

theorem del_obj {k o : Nat} {y : SObj} (hy : (σ.setObj k none).obj o = some y) : o ≠ k ∧ σ.obj o = some y := by
  rcases SState.obj_setObj_some hy with ⟨_, h⟩ | h
  · cases h
  · exact h

theorem Rep.delObj (h : Rep w0 X w a σ env ρ) (k : Nat) : Rep w0 X w a (σ.setObj k none) env ρ :=
  ⟨by rw [SState.tmps_setObj]; exact h.size, fun t => by rw [SState.tmp_setObj]; exact h.tmps t, fun o y hy => h.objs o y (del_obj hy).2, fun o o' y y' b h1 h2 => h.inj o o' y y' b (del_obj h1).2 (del_obj h2).2, fun o y b h1 => h.own o y b (del_obj h1).2, h.cells, h.os, h.tape, h.output, h.grown, h.old, h.sub, h.new, h.nod, h.hold⟩

theorem avoids_delObj {k d : Nat} (h : σ.avoids d) : (σ.setObj k none).avoids d :=
  ⟨fun t => by rw [SState.tmp_setObj]; exact h.1 t, fun o y hy => h.2 o y (del_obj hy).2⟩

theorem lnilTok_sound {o : Oper} {x : Operand} {e : Eff} (ho : o.op = .assign x) (hx : isNilSlice x = true) (hl : lnilTok P o.type o.dst = some e) (h : Rep w0 X w a σ env ρ) (hd : ∀ d, o.dst = some d → d < σ.tmps.length) (hm : σ.mem.length = σ.tmps.length)
    (hf : ∀ u, e.upd = some u → σ.obj u.1 = none ∧ σ.avoids u.1) : OpOk P o a w w0 X (σ.app o.dst e) env := by
  unfold lnilTok at hl
  split at hl
  · rename_i d el hdst hu
    obtain ⟨n, hn, rfl⟩ := Option.map_eq_some_iff.1 hl
    obtain ⟨hfree, hav⟩ := hf _ rfl
    have hdl := hd d hdst
    have hxe : a.eval x = .slice none 0 0 := by
      unfold isNilSlice at hx
      split at hx
      · rfl
      · cases hx
    have hrep := h.addTok (w' := w) (k := d) (by rw [hm]; exact hdl) hfree hav (World.ownsRow_nil w 0 el n) (Keeps.refl _ _) (fun _ _ _ _ _ => ⟨rfl, by simp [Value.ownBlock]⟩) (fun _ hb => by simp [Value.ownBlock] at hb) (fun _ hb => by simp [Value.ownBlock] at hb) rfl rfl rfl (Nat.le_refl _) fun _ _ _ => rfl
    refine opOk_value (v := .slice none 0 0) (by unfold execOp; simp [ho, hxe]) (hrep.put (by rw [hdst]; intro d' e; cases e; rw [SState.tmps_setObj]; exact hdl) ?_)
    exact .own (es := []) rfl .nil (by simp [Rho.withTok])
  · cases hl


theorem own_block (h : Rep w0 X w a σ env ρ) {k : Nat} {e : TypeId} {size : Nat} (hk : σ.obj k = some (.tok e size)) {b : Nat} (hb : (ρ.val k).ownBlock = some b) : (w0.heap.size ≤ b ∨ X.may b) ∧ b < w.heap.size := by
  have := h.own k _ b hk hb
  exact ⟨this.1.resolve_left (by simp [SObj.ro]), this.2⟩

theorem lappend_sound {o : Oper} {t : TypeId} {s x : Operand} {ss sx : SV} {ix : Nat} {e : Eff} (ho : o.op = .call { callee := .builtin .append, args := #[s, x], argTypes := #[t, t] }) (hl : lappend P t ss sx o.dst σ.obj ix = some e) (hs : SRd w ρ env (a.eval s) ss) (hx : SRd w ρ env (a.eval x) sx)
    (h : Rep w0 X w a σ env ρ) (hd : ∀ d, o.dst = some d → d < σ.tmps.length) (hm : σ.mem.length = σ.tmps.length) (hb : BindOk P env ix e.bind) (hf : ∀ u, e.upd = some u → σ.obj u.1 = none ∧ σ.avoids u.1) : OpOk P o a w w0 X (σ.app o.dst e) env := by
  unfold lappend at hl
  split at hl
  · rename_i d el y k hdst hu
    split at hl
    · rename_i e' size i x' hk hi hx'
      split at hl
      · rename_i z hz
        split at hl
        · rename_i hc
          obtain ⟨rfl, hsize, hzs, hsz⟩ := hc
          cases hl
          obtain ⟨hfree, hav⟩ := hf _ rfl
          have hdl := hd d hdst
          obtain ⟨es, hes, hrd, hval⟩ := hs.own_inv
          obtain ⟨dx, hdx, hrx⟩ := SV.toE_rd hx' hx
          obtain ⟨dz, hev, hix⟩ := hb
          simp only [E.eval, hes, hdx, Option.bind_some] at hev
          unfold D.app at hev
          split at hev
          · rename_i xs0 ys heq
            cases heq
            split at hev
            · rename_i hcond
              cases hev
              obtain ⟨hby, hml, hz1, hz2⟩ := hcond
              obtain ⟨n, xs, hown, hfreeS⟩ := h.objs k _ hk
              rw [← hval] at hown hfreeS
              obtain ⟨hn, hrow⟩ := own_row hown hrd hz1
              have hkd : d ≠ k := fun e => by rw [e, hk] at hfree; cases hfree
              have hdel := h.delObj k
              have hfree1 : (σ.setObj k none).obj d = none := by
                rw [SState.obj_setObj_ne σ none hkd]; exact hfree
              have hother : ∀ o' y' b, (σ.setObj k none).obj o' = some y' → objBlk ρ o' y' b → b < w.heap.size ∧ (a.eval s).ownBlock ≠ some b := by
                intro o' y' b h1 h2
                have h1' := del_obj h1
                refine ⟨(h.own o' y' b h1'.2 h2).2, fun hg => h1'.1 ?_⟩
                rw [hval] at hg
                exact h.inj o' k y' _ b h1'.2 hk h2 hg
              -- the run, and what it leaves
              have fin : ∀ (v' : Value) (w' : World) (m : Nat) (news : List Value), (Builtin.append_ #[t, t] o.type #[a.eval s, a.eval x]).run P w = .ok v' w' → ys.length = m → RowRd w ρ.S size news ys → w'.ownsRow 0 el size v' (n + m) (xs ++ news) →
                  ((v'.ownBlock = (a.eval s).ownBlock ∧ w.grownBy w' (a.eval s).ownBlock) ∨ (v'.ownBlock = some w.heap.size ∧ w.grownBy w' none)) → OpOk P o a w w0 X (σ.app o.dst ⟨.own (.sym ix) d, some (d, .tok el size), some k, some (.ev (.app size i.bytes y x'))⟩) env := by
                intro v' w' m news hrun hym hnr hown' hcase
                have hmeta : w'.os = w.os ∧ w'.tape = w.tape ∧ w'.output = w.output ∧ w.heap.size ≤ w'.heap.size := by
                  rcases hcase with ⟨_, hg⟩ | ⟨_, hg⟩ <;> exact ⟨hg.os, hg.tape, hg.output, hg.size⟩
                have hblocks : ∀ b, b < w.heap.size → (a.eval s).ownBlock ≠ some b → w'.heap[b]? = w.heap[b]? := by
                  intro b hb hne
                  rcases hcase with ⟨_, hg⟩ | ⟨_, hg⟩
                  · exact hg.block b hb fun e => hne e.symm
                  · exact hg.block b hb (by simp)
                have hK : Keeps ρ.S w w' := by
                  intro b i' hS
                  by_cases hg : (a.eval s).ownBlock = some b
                  · rcases hcase with ⟨hv', _⟩ | ⟨_, hgr⟩
                    · have hlt : i' < n * size := Nat.lt_of_not_le fun hle => hfreeS b hg i' hle hS
                      have hix' : i' < xs.length := by rw [hown.1]; exact hlt
                      have h1 := hown.cells hg i' _ (List.getElem?_eq_getElem hix')
                      have h2 := hown'.cells (hv'.trans hg) i' xs[i'] (by rw [List.getElem?_append_left hix']; exact List.getElem?_eq_getElem hix')
                      rw [addr_add] at h1 h2
                      rw [Nat.zero_add] at h1 h2
                      rw [h1, h2]
                    · exact World.cell?_of_block (a := ⟨b, i', none⟩) (hgr.block b (h.cells b i' hS) (by simp))
                  · exact World.cell?_of_block (a := ⟨b, i', none⟩) (hblocks b (h.cells b i' hS) hg)
                have hrep := hdel.addTok (w' := w') (k := d) (e := el) (size := size) (v := v') (n := n + m) (xs := xs ++ news) (by rw [SState.mlen_setObj, hm]; exact hdl) hfree1 (avoids_delObj hav) hown' hK ?_ ?_ ?_ hmeta.1 hmeta.2.1 hmeta.2.2.1 hmeta.2.2.2 ?_
                · have hval' : (ρ.withTok d v' ((n + m) * size)).val d = v' := by simp [Rho.withTok]
                  refine opOk_value (v := v') ?_ (hrep.put (by rw [hdst]; intro d' e; cases e; rw [SState.tmps_setObj, SState.tmps_setObj]; exact hdl) ?_)
                  · unfold execOp
                    simp only [ho, resolve, invoke, builtin, Sem.run_bind, Sem.run_pure, Result.andThen_ok, List.map_toArray, List.map_cons, List.map_nil, hrun]
                  · refine .own (es := es ++ ys) (by simp only [E.eval]; exact hix) (own_rd hown' (by simp [hn, hym]) ((hrow.append hnr).keep hK (ρ.S.le_or _)) fun b hb i' hi' => .inr ⟨hb, hi'⟩) hval'.symm
                · intro o' y' b h1 h2
                  obtain ⟨h3, h4⟩ := hother o' y' b h1 h2
                  refine ⟨hblocks b h3 h4, ?_⟩
                  rcases hcase with ⟨hv', _⟩ | ⟨hv', _⟩
                  · rw [hv']; exact h4
                  · rw [hv']; simp; omega
                · intro b hb
                  rcases hcase with ⟨hv', _⟩ | ⟨hv', _⟩
                  · rw [hv', hval] at hb; exact (own_block h hk hb).1
                  · rw [hv'] at hb; cases hb; exact .inl h.grown
                · intro b hb off hoff hS
                  rcases hcase with ⟨hv', _⟩ | ⟨hv', _⟩
                  · rw [hv'] at hb
                    refine hfreeS b hb off (Nat.le_trans (Nat.mul_le_mul_right _ (Nat.le_add_right n m)) hoff) hS
                  · rw [hv'] at hb; cases hb
                    have := h.cells _ off hS
                    omega
                · intro b hb hnm
                  refine hblocks b (Nat.lt_of_lt_of_le hb h.grown) fun hg => ?_
                  rw [hval] at hg
                  rcases (own_block h hk hg).1 with h1 | h1
                  · omega
                  · exact hnm h1
              rcases news_of hrx hz2 with ⟨hvx, rfl⟩ | ⟨ad, m, c, news, hvx, hym, hnl, hcells, hone, hnrow⟩
              · refine fin (a.eval s) w 0 [] ?_ rfl ⟨by simp, by simp, by simp⟩ (by simpa using hown) (.inl ⟨rfl, ⟨rfl, rfl, rfl, Nat.le_refl _, fun _ _ _ => rfl⟩⟩)
                rw [hvx]
                rcases hown.2 with ⟨hv, hn0⟩ | ⟨g, cap, cur, hv, _, _, hnc, _⟩
                · rw [hv]; exact run_append_none w t o.type el i hu hi none 0 0 (Nat.le_refl _)
                · rw [hv]; exact run_append_none w t o.type el i hu hi _ n cap hnc
              · obtain ⟨v', w', hrun, hown', hcase⟩ := run_append_cases (P := P) w t o.type el i z size i.bytes hu hi hz hsize rfl hzs hsz (a.eval s) n xs hown ad m c news hnl hcells hone (by rw [← hn, ← hym]; exact hml) (by rw [← hn, ← hym]; exact hby)
                rw [← hvx] at hrun
                exact fin v' w' m news hrun hym hnrow hown' hcase
            · cases hev
          · cases hev
        · cases hl
      · cases hl
    · cases hl
  · cases hl

theorem lpure2_sound {nz : Bool} {o : Oper} {opv : Operand → SV} {ix : Nat} {r : LRes} (hv : ∀ x, SRd w ρ env (a.eval x) (opv x)) (hl : lpure2 P nz o opv ix = some r) (h : Rep w0 X w a σ env ρ) (hd : ∀ d, o.dst = some d → d < σ.tmps.length) (hb : BindOk P env ix r.bind) :
    r.upd = none ∧ OpOk P o a w w0 X (σ.put o.dst r.val) env := by
  unfold lpure2 at hl
  split at hl
  · rename_i ho
    exact lbuild_sound ho hv hl h hd hb
  · exact lpure_sound hv hl h hd hb

/-- One step. -/
theorem estep_sound {o : Oper} {act : List (E × Bool)} {ix : Nat} {e : Eff} (h : Rep w0 X w a σ env ρ) (ha : actHolds env act) (hl : estep P o σ.opv act σ.obj ix = some e) (hd : ∀ d, o.dst = some d → d < σ.tmps.length) (hm : σ.mem.length = σ.tmps.length)
    (hb : BindOk P env ix e.bind) (hf : freshFor' σ o e) (hact : isNew o = true → ¬ (e.upd = none ∧ e.del = none) → act = []) : OpOk P o a w w0 X (σ.app o.dst e) env := by
  have hv := fun x => opv_rd (a := a) h actHolds_nil x
  unfold estep at hl
  split at hl
  · rename_i r hr
    cases hl
    obtain ⟨hu, hok⟩ := ldat_sound (fun x => opv_rd (a := a) h ha x) hr h hd hb
    have : σ.app o.dst r.eff = σ.put o.dst r.val := by simp [SState.app, LRes.eff, SState.dels, SState.sets, hu]
    rw [this]; exact hok
  split at hl
  · rename_i r hr
    cases hl
    rcases lpub_sound hv hr h hd hb with ⟨hu, hok⟩ | ⟨z, hu, hok⟩
    · have : σ.app o.dst r.eff = σ.put o.dst r.val := by simp [SState.app, LRes.eff, SState.dels, SState.sets, hu]
      rw [this]; exact hok
    · have : σ.app o.dst r.eff = (σ.setObj HID (some z)).put o.dst r.val := by simp [SState.app, LRes.eff, SState.dels, SState.sets, hu]
      rw [this]; exact hok
  split at hl
  · rename_i r hr
    cases hl
    rcases lmap_sound hv hr h hd hb with ⟨hu, hok⟩ | ⟨z, hu, hok⟩
    · have : σ.app o.dst r.eff = σ.put o.dst r.val := by simp [SState.app, LRes.eff, SState.dels, SState.sets, hu]
      rw [this]; exact hok
    · have : σ.app o.dst r.eff = (σ.setObj HID (some z)).put o.dst r.val := by simp [SState.app, LRes.eff, SState.dels, SState.sets, hu]
      rw [this]; exact hok
  split at hl
  · rename_i e' hn
    split at hl
    case isFalse => cases hl
    rename_i hnH
    cases hl
    have hf : isNew o = true → ∀ u, e.upd = some u → σ.obj u.1 = none ∧ σ.avoids u.1 ∧ ∀ x, x ∈ o.op.operands → (σ.opv [] x).avoids u.1 = true := fun hn u hu => hf hn u hu (notH_spec hnH hu)
    unfold lnew at hn
    split at hn
    · rename_i x ho
      split at hn
      · rename_i hx
        exact lnilTok_sound ho hx hn h hd hm fun u hu => by
          have := hf (by simp [isNew, ho, hx]) u hu
          exact ⟨this.1, this.2.1⟩
      · cases hn
    · rename_i t n c ho
      obtain ⟨r, hr, rfl⟩ := Option.map_eq_some_iff.1 hn
      obtain ⟨ob, x, hu, hok⟩ := lmake_sound ho hr (hv n) (hv c) h hd hm hb fun u hu => by
        have := hf (by simp [isNew, ho]) u hu
        exact ⟨this.1, this.2.1⟩
      have : σ.app o.dst r.eff = (σ.setObj ob (some x)).put o.dst r.val := by simp [SState.app, LRes.eff, SState.dels, SState.sets, hu]
      rw [this]; exact hok
    · rename_i t len parts ho
      obtain ⟨r, hr, rfl⟩ := Option.map_eq_some_iff.1 hn
      obtain ⟨ob, x, hu, hok⟩ := llit_sound ho hv hr h hd hm hb fun u hu => by
        have := hf (by simp [isNew, ho]) u hu
        exact ⟨this.1, this.2.1⟩
      have : σ.app o.dst r.eff = (σ.setObj ob (some x)).put o.dst r.val := by simp [SState.app, LRes.eff, SState.dels, SState.sets, hu]
      rw [this]; exact hok
    · rename_i c ho
      obtain ⟨callee, args, ts⟩ := c
      simp only at hn
      split at hn
      · split at hn
        · rename_i s x t t' hargs hts
          split at hn
          · rename_i htt
            subst htt
            have e1 : args = #[s, x] := by rw [← Array.toArray_toList (xs := args), hargs]
            have e2 : ts = #[t, t] := by rw [← Array.toArray_toList (xs := ts), hts]
            subst e1 e2
            exact lappend_sound ho hn (hv s) (hv x) h hd hm hb fun u hu => by
              have := hf (by simp [isNew, ho]) u hu
              exact ⟨this.1, this.2.1⟩
          · cases hn
        · cases hn
      · cases hn
    · cases hn
  split at hl
  · rename_i r hr
    cases hl
    obtain ⟨hu, hok⟩ := lpure2_sound (fun x => opv_rd (a := a) h ha x) hr h hd hb
    have : σ.app o.dst r.eff = σ.put o.dst r.val := by simp [SState.app, LRes.eff, SState.dels, SState.sets, hu]
    rw [this]; exact hok
  · obtain ⟨r, hr, hl⟩ := Option.bind_eq_some_iff.1 hl
    split at hl
    case isFalse => cases hl
    rename_i hnH
    cases hl
    have hf : isNew o = true → ∀ u, r.upd = some u → σ.obj u.1 = none ∧ σ.avoids u.1 ∧ ∀ x, x ∈ o.op.operands → (σ.opv [] x).avoids u.1 = true := fun hn u hu => hf hn u hu (notH_spec (by simpa [hn] using hnH) hu)
    have hfo : freshOk σ o r.upd := by
      intro ob x hu
      split
      · rename_i t ho
        have := hf (by simp [isNew, ho]) (ob, x) hu
        exact ⟨this.1, this.2.1⟩
      · rename_i t y ho
        have := hf (by simp [isNew, ho]) (ob, x) hu
        exact ⟨this.1, this.2.1, this.2.2 y (by rw [ho]; simp [Op.operands])⟩
      · trivial
    rcases lstep_sound h ha hr hd hm hb hfo (fun ⟨t, x, ho⟩ hu => hact (by simp [isNew, ho]) fun hh => hu hh.1) with ⟨hu, hok⟩ | ⟨ob, x, hu, hok⟩
    · have : σ.app o.dst r.eff = σ.put o.dst r.val := by simp [SState.app, LRes.eff, SState.dels, SState.sets, hu]
      rw [this]; exact hok
    · have : σ.app o.dst r.eff = (σ.setObj ob (some x)).put o.dst r.val := by simp [SState.app, LRes.eff, SState.dels, SState.sets, hu]
      rw [this]; exact hok

end
end Go.Am
