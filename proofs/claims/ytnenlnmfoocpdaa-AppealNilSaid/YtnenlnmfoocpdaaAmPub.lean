/-
  Variables and slices that nobody writes: data at once; and such that lie in the store.
-/
import Derived.Test.YtnenlnmfoocpdaaAmLit
import Derived.Test.YtnenlnmfoocpdaaAmBuild
set_option linter.unusedSimpArgs false
set_option linter.unusedVariables false
namespace Go.Am

def cfOf (obj : Nat → Option SObj) : Option StCfg :=
  match obj HID with
  | some (.store cf _) => some cf
  | _ => none

/-- the cells of a value, as one expression -/
def cellsE (agg : Bool) (n : Nat) (x : E) : E := if agg then .aggN n x else .cons (.scal x) .nil

/-- shall the variable be data? -/
def isDat (o : Oper) (act : List (E × Bool)) (obj : Nat → Option SObj) : Bool :=
  match act, o.dst, cfOf obj with
  | _ :: _, _, _ => true
  | [], some d, some cf => cf.dats.contains d
  | _, _, _ => false

/-- a variable or a slice literal that is data at once -/
def ldat (P : Program) (o : Oper) (opv : Operand → SV) (act : List (E × Bool)) (obj : Nat → Option SObj) (ix : Nat) : Option LRes :=
  if isDat o act obj then
    match o.op with
    | .box t x => (match aggT P t, szT P t, (opv x).toE with
      | some agg, some n, some x' => some { val := .e (.sym ix) true, bind := some (.ev (.mkptr (cellsE agg n x'))) }
      | _, _, _ => none)
    | .buildSlice t len parts => (llit P t len (parts.toList) opv (some 0) ix).map fun r => { val := .e (.sym ix) true, bind := r.bind }
    | _ => none
  else none

/-- a new variable, a new slice of the store; an 'append' to a slice of the store -/
def lpubC (P : Program) (o : Oper) (opv : Operand → SV) (hO : Option SObj) (ix : Nat) : Option LRes :=
  match hO, o.dst with
  | some (.store cf h), some d =>
    if cf.ro then none else match o.op with
    | .alloc t => if cf.pubs.contains d then (match (P.info? t).bind (·.zero) with
      | some z => (match D.ofCells cf.nils z.cells.toList with
        | some ds => some { val := .e (.fstid h) true, upd := some (HID, .store cf (.sym ix)), bind := some (.ev (.newb t z.cells.size h (.const (.agg ds)))) }
        | none => none)
      | none => none) else none
    | .box t x => if cf.pubs.contains d then (match aggT P t, szT P t, (opv x).toE with
      | some agg, some n, some x' => if agg = true ∨ n = 1 then some { val := .e (.fstid h) true, upd := some (HID, .store cf (.sym ix)), bind := some (.ev (.newb t n h (cellsE agg n x'))) } else none
      | _, _, _ => none) else none
    | .makeSlice t n c => if cf.pubs.contains d then (match lmake P t (opv n) (opv c) (some 0) ix, P.underlying t with
      | some { bind := some (.ev y), .. }, some (.slice e) => (match P.info? e with
        | some i => if 0 < i.size then some { val := .e (.fstsl h y) true, upd := some (HID, .store cf (.sym ix)), bind := some (.ev (.newv e i.size h y)) } else none
        | none => none)
      | _, _ => none) else none
    | .assign x => if cf.pubs.contains d then (match x with
      | .const (.slice none 0 0) => some { val := .e (.const .snil) true }
      | _ => none) else none
    | .call c => (match c.callee with
      | .builtin .append => (match c.args.toList, c.argTypes.toList with
        | [s, x], [t, t'] => if t = t' then (match opv s, (opv x).toE, P.underlying t with
          | .e s' _, some x', some (.slice e) => (match P.info? e with
            | some i => (match i.zero with
              | some z => if z.cells.size = i.size ∧ 0 < i.size then some { val := .e (.apps h s' x') true, upd := some (HID, .store cf (.sym ix)), bind := some (.ev (.apph e i.size i.bytes h s' x')) } else none
              | none => none)
            | none => none)
          | _, _, _ => none) else none
        | _, _ => none)
      | _ => none)
    | _ => none
  | _, _ => none

/-- does it look at the store? -/
def usesH (o : Oper) : Bool :=
  match o.op with
  | .load _ _ | .store _ _ _ | .alloc _ | .box _ _ | .makeSlice _ _ _ | .assign _ | .buildSlice _ _ _ | .makeMap _ _ | .mapUpdate _ _ _ _ | .insert _ _ _ _ | .lookup _ _ _ _ => true
  | .call c => (match c.callee with | .value _ => true | .builtin .append => true | _ => false)
  | _ => false

/-- may it be an expression? -/
def SV.mayE : SV → Bool
  | .e _ _ => true
  | .cond _ sv => sv.mayE
  | _ => false

theorem strip_mayE {act : List (E × Bool)} {sv : SV} {x : E} {s : Bool} (h : sv.strip act = .e x s) : sv.mayE = true := by
  unfold SV.strip at h
  split at h
  · split at h
    · subst h; rfl
    · cases h
  · subst h; rfl

def cfO : Option SObj → Option StCfg
  | some (.store cf _) => some cf
  | _ => none

/-- does it hang on what the store holds? ('m': the operands that may be expressions) -/
def usesHr (o : Oper) (m : Operand → Bool) (cf : Option StCfg) : Bool :=
  match o.op with
  | .load _ x => m x
  | .store _ x _ => m x
  | .alloc _ | .box _ _ | .makeSlice _ _ _ => match cf, o.dst with
    | some cf, some d => cf.pubs.contains d
    | _, _ => false
  | .makeMap _ _ | .mapUpdate _ _ _ _ | .insert _ _ _ _ | .lookup _ _ _ _ => true
  | .call c => (match c.callee with
    | .value _ => true
    | .builtin .append => match c.args.toList with
      | s :: _ => m s
      | [] => false
    | _ => false)
  | _ => false

def lpub (P : Program) (o : Oper) (opv : Operand → SV) (obj : Nat → Option SObj) (ix : Nat) : Option LRes :=
  if usesH o = true then lpubC P o opv (obj HID) ix else none

section
variable {P : Program} {w w0 : World} {X : Ent} {a : Act} {σ : SState} {env : List D} {ρ : Rho}

theorem cellsE_rd {S : Sets} {agg : Bool} {n : Nat} {x : E} {d dc : D} {v : Value} (hx : x.eval env = some d) (hr : RdD w S v d) (hc : (cellsE agg n x).eval env = some dc) : ∃ cs, dc = .agg cs ∧ v.cells.size = cs.length ∧ (agg = true → cs.length = n) ∧ (agg = false → cs.length = 1) ∧ (∀ (i : Nat) (u : Value), v.cells[i]? = some u → u.oneCell' = true) ∧
    (∀ (i : Nat) (c : D), cs[i]? = some c → c.one = true) ∧ ∀ (i : Nat) (u : Value) (c : D), v.cells[i]? = some u → cs[i]? = some c → RdD w S u c := by
  unfold cellsE at hc
  split at hc
  · rename_i hagg
    simp only [E.eval, hx, Option.bind_some] at hc
    unfold D.aggN at hc
    split at hc
    · rename_i cs
      split at hc
      · rename_i hl
        cases hc
        obtain ⟨vs, rfl, hvl, ho, hh⟩ := hr.agg_inv
        refine ⟨cs, rfl, hvl, fun _ => hl, (by simp [hagg]), fun i u hu => ?_, fun i c hc => ho i c hc, hh⟩
        have hi : i < cs.length := by rw [← hvl]; exact (Array.getElem?_eq_some_iff.1 hu).1
        exact (hh i u _ hu (List.getElem?_eq_getElem hi)).one (ho i _ (List.getElem?_eq_getElem hi))
      · cases hc
    · cases hc
  · rename_i hagg
    simp only [E.eval, hx, Option.bind_some, D.scal] at hc
    by_cases h1 : d.one = true
    · rw [if_pos h1] at hc
      simp only [Option.bind_some, D.cons_one h1] at hc
      cases hc
      obtain ⟨g1, g2, g3⟩ := hr.cells_rd (by rw [D.cells_one h1]; simp [h1])
      rw [D.cells_one h1] at g1 g3
      refine ⟨[d], rfl, g1, (by simp [hagg]), fun _ => rfl, g2, fun i c hc => ?_, g3⟩
      cases i with
      | zero => simp at hc; subst hc; exact h1
      | succ i => simp at hc
    · rw [if_neg h1] at hc
      cases hc

theorem ldat_sound {o : Oper} {opv : Operand → SV} {act : List (E × Bool)} {ix : Nat} {r : LRes} (hv : ∀ x, SRd w ρ env (a.eval x) (opv x)) (hl : ldat P o opv act σ.obj ix = some r) (h : Rep w0 X w a σ env ρ) (hd : ∀ d, o.dst = some d → d < σ.tmps.length) (hb : BindOk P env ix r.bind) :
    r.upd = none ∧ OpOk P o a w w0 X (σ.put o.dst r.val) env := by
  unfold ldat at hl
  split at hl
  · split at hl
    · rename_i t x ho
      split at hl
      · rename_i agg n x' hg hn hx
        cases hl
        obtain ⟨dx, hdx, hrx⟩ := SV.toE_rd hx (hv x)
        obtain ⟨d, he, hix⟩ := hb
        simp only [E.eval, Option.bind_eq_some_iff] at he
        obtain ⟨dc, hdc, he⟩ := he
        obtain ⟨cs, rfl, h1, _, _, h2, h3, h4⟩ := cellsE_rd hdx hrx hdc
        simp only [D.mkptr] at he
        cases he
        have hrun : (execOp a.eval o).run P w = .ok (.value (.pointer (some ⟨w.heap.size, 0, none⟩))) (w.alloc (.cells (a.eval x).cells t)) := by
          unfold execOp
          simp only [ho, Instr.box, Sem.run_bind, Result.andThen_ok, newVar, newRow, Sem.run_pure, run_newObj]
          rfl
        have hrep := h.allocS (.cells (a.eval x).cells t)
        have hK : Keeps ρ.S w (w.alloc (.cells (a.eval x).cells t)) := Keeps.alloc h.cells _
        refine ⟨rfl, opOk_value hrun (hrep.put hd (.e (d := .ptr cs) (by simp [E.eval, hix]) ?_ fun _ => rfl))⟩
        have hcell : ∀ (j : Nat) (c : D), cs[j]? = some c → ∃ u, (a.eval x).cells[j]? = some u := fun j c hj => ⟨_, Array.getElem?_eq_getElem (by rw [h1]; exact (List.getElem?_eq_some_iff.1 hj).1)⟩
        refine .ptr (val := fun j => (a.eval x).cells.getD j undef) h3 (fun j c hj => .inr rfl) (fun j c hj => ?_) fun j c hj => ?_
        · obtain ⟨u, hu⟩ := hcell j c hj
          rw [cell_heap (heap_alloc_new w _), Nat.zero_add, hu, Array.getD_eq_getD_getElem?, hu]
          rfl
        · obtain ⟨u, hu⟩ := hcell j c hj
          rw [Array.getD_eq_getD_getElem?, hu]
          exact (h4 j u c hu hj).keep hK (ρ.S.le_or _)
      · cases hl
    · rename_i t len parts ho
      obtain ⟨r0, hr0, rfl⟩ := Option.map_eq_some_iff.1 hl
      unfold llit at hr0
      split at hr0
      · rename_i e hdst hu
        split at hr0
        · rename_i i agg y hi hag hy
          split at hr0
          · rename_i hc
            cases hr0
            obtain ⟨hidx, hpos, hsmall, hagg, hzero⟩ := hc
            have hsz : szT P e = some i.size := by simp [szT, hi]
            rw [hag, hsz] at hy
            simp only [Option.getD_some] at hy
            obtain ⟨dz, hev, hix⟩ := hb
            obtain ⟨z, hz⟩ := Option.isSome_iff_exists.1 hzero
            obtain ⟨r, ds, rfl, hdl2, hrunx, hrs, hml, hrow⟩ := lit_run ho hv hu hi hy hidx hpos hsmall hagg hz hev
            have hrep := h.allocS (.cells r e)
            have hK : Keeps ρ.S w (w.alloc (.cells r e)) := Keeps.alloc h.cells _
            refine ⟨rfl, opOk_value hrunx (hrep.put hd (.e (d := .lst ds) (by simp [E.eval, hix]) ?_ fun _ => rfl))⟩
            have hown : (w.alloc (.cells r e)).ownsRow 0 e i.size (.slice (some ⟨w.heap.size, 0, none⟩) len len) len r.toList := World.ownsRow_lit w r len (Nat.zero_le _) hml hrs
            exact own_rd hown hdl2 (hrow.keep hK (ρ.S.le_or _)) fun b hb j hj => .inr (by simpa [Value.ownBlock] using hb.symm)
          · cases hr0
        · cases hr0
      · cases hr0
    · cases hl
  · cases hl

/-- the elements' cells of a slice that reads as data, one after the other -/
theorem news_of {S : Sets} {size : Nat} {v : Value} {ys : List D} (h : RdD w S v (.lst ys)) (hz : allCells size ys = true) :
    (v = .slice none 0 0 ∧ ys = []) ∨ ∃ (ad : Addr) (m c : Nat) (news : List Value), v = .slice (some ad) m c ∧ ys.length = m ∧ news.length = m * size ∧ (∀ j u, news[j]? = some u → w.cell? (ad.add j) = some u) ∧ (∀ u ∈ news, u.oneCell' = true) ∧ RowRd w S size news ys := by
  have hzz : ∀ (i : Nat) (e : D), ys[i]? = some e → e.cells.length = size := fun i e he => allCells_get hz he
  cases h with
  | nil => exact .inl ⟨rfl, rfl⟩
  | @emp ad c _ => exact .inr ⟨ad, 0, c, [], rfl, rfl, by simp, by simp, by simp, by simp, hzz, by simp⟩
  | @lst b off len cap size' _ val hl hc hm hz' ho hS hw hr =>
    right
    refine ⟨⟨b, off, none⟩, len, cap, (List.range (len * size)).map fun q => val (q / size) (q % size), rfl, hl.symm, by simp, ?_, ?_, by simp [hl], hzz, ?_⟩
    all_goals
      have hget : ∀ q, q < len * size → ∃ e d, ys[q / size]? = some e ∧ e.cells[q % size]? = some d ∧ size' = size := by
        intro q hq
        have hs : 0 < size := by
          rcases Nat.eq_zero_or_pos size with h0 | h0
          · subst h0; simp at hq
          · exact h0
        have hi : q / size < ys.length := by rw [← hl]; exact (Nat.div_lt_iff_lt_mul hs).2 hq
        have hcl := hzz _ _ (List.getElem?_eq_getElem hi)
        have hj : q % size < (ys[q / size]).cells.length := by rw [hcl]; exact Nat.mod_lt _ hs
        exact ⟨_, _, List.getElem?_eq_getElem hi, List.getElem?_eq_getElem hj, (hz' _ _ (List.getElem?_eq_getElem hi)).symm.trans hcl⟩
    · intro j u hu
      simp only [List.getElem?_map, Option.map_eq_some_iff] at hu
      obtain ⟨q, hq, rfl⟩ := hu
      obtain ⟨hjl, rfl⟩ := List.getElem?_eq_some_iff.1 hq
      simp only [List.length_range] at hjl
      simp only [List.getElem_range]
      obtain ⟨e, d, h1, h2, rfl⟩ := hget j hjl
      have := hw _ _ _ _ h1 h2
      rw [addr_add]
      have hdm := Nat.div_add_mod j size'
      rw [Nat.mul_comm] at hdm
      rw [show off + j = off + j / size' * size' + j % size' from by omega]
      exact this
    · intro u hu
      simp only [List.mem_map, List.mem_range] at hu
      obtain ⟨q, hq, rfl⟩ := hu
      obtain ⟨e, d, h1, h2, rfl⟩ := hget q hq
      exact (hr _ _ _ _ h1 h2).one (ho _ _ _ _ h1 h2)
    · intro i e j d he hd
      obtain ⟨hlt, hj⟩ := index_lt hzz he hd
      refine ⟨ho _ _ _ _ he hd, val i j, ?_, hr _ _ _ _ he hd⟩
      have hq : i * size + j < len * size := by rw [hl]; exact hlt
      rw [List.getElem?_map, List.getElem?_range hq]
      have hs : 0 < size := by omega
      have h1 : (i * size + j) / size = i := by
        rw [Nat.mul_comm, Nat.mul_add_div hs, Nat.div_eq_of_lt hj, Nat.add_zero]
      have h2 : (i * size + j) % size = j := by
        rw [Nat.mul_comm, Nat.mul_add_mod, Nat.mod_eq_of_lt hj]
      simp [h1, h2]

theorem RowRd.append {S : Sets} {size : Nat} {xs ys : List Value} {es fs : List D} (h : RowRd w S size xs es) (k : RowRd w S size ys fs) : RowRd w S size (xs ++ ys) (es ++ fs) := by
  obtain ⟨h1, h2, h3⟩ := h
  obtain ⟨k1, k2, k3⟩ := k
  refine ⟨by simp [h1, k1, Nat.add_mul], fun i e he => ?_, fun i e j d he hd => ?_⟩
  · rw [List.getElem?_append] at he
    split at he
    · exact h2 i e he
    · exact k2 _ e he
  · rw [List.getElem?_append] at he
    split at he
    · obtain ⟨h4, v, h5, h6⟩ := h3 i e j d he hd
      refine ⟨h4, v, ?_, h6⟩
      rw [List.getElem?_append_left (by rw [h1]; exact (index_lt h2 he hd).1)]
      exact h5
    · rename_i hi
      obtain ⟨h4, v, h5, h6⟩ := k3 _ e j d he hd
      refine ⟨h4, v, ?_, h6⟩
      have hle : es.length * size ≤ i * size := Nat.mul_le_mul_right _ (by omega)
      rw [List.getElem?_append_right (by rw [h1]; omega), h1]
      rw [show i * size + j - es.length * size = (i - es.length) * size + j from by rw [Nat.sub_mul]; omega]
      exact h5


/-! ## new blocks of the store -/

def Sets.more (S : Sets) (b k : Nat) : Sets := { mem := S.mem, loc := fun i => if i = S.n then b else S.loc i, n := S.n + 1, cap := fun i => if i = S.n then k else S.cap i, hold := S.hold }

theorem Sets.le_more (S : Sets) (b k : Nat) : S ≤ S.more b k :=
  ⟨fun _ _ h => h, Nat.le_succ _, fun i hi => by simp [Sets.more, Nat.ne_of_lt hi], fun i hi => by simp [Sets.more, Nat.ne_of_lt hi], rfl⟩

/-- A block that the world has behind 'w' comes into the store; blocks may go out of it. -/
theorem stOk_moreG {w' : World} {bs bs2 : List D} {k b : Nat} {z : D} {foot' : Nat → Prop} (hst : StOk w ρ.S ρ.foot bs) (hK : Keeps ρ.S w w') (hl2 : bs2.length = bs.length) (hold : ∀ (i : Nat) (x : D), bs2[i]? = some x → x.live = true → bs[i]? = some x ∧ ρ.S.loc i ≠ b ∧ w'.heap[ρ.S.loc i]? = w.heap[ρ.S.loc i]?)
    (hf : ∀ c, foot' c ↔ (ρ.foot c ∨ c = b))
    (hz1 : ∀ e sz cs, z = .blk e sz cs → ∃ vs : Array Value, w'.heap[b]? = some (.cells vs e (0, 0)) ∧ vs.size = k * sz ∧ cs.length ≤ vs.size ∧ (∀ (j : Nat) (d : D), cs[j]? = some d → d.one = true) ∧ ∀ (j : Nat) (v : Value) (d : D), vs[j]? = some v → cs[j]? = some d → RdD w ρ.S v d)
    (hz2 : ∀ kvs, z = .mblk kvs → ∃ (es : Array MapEntry) (clock : Nat), w'.heap[b]? = some (.map es clock) ∧ es.size = kvs.length ∧ ∀ (j : Nat) (e : MapEntry) (kv : D), es[j]? = some e → kvs[j]? = some kv → ∃ dk dv, kv = .tup [dk, dv] ∧ RdD w ρ.S e.key dk ∧ RdD w ρ.S e.val dv)
    (hS : ∀ off, ¬ ρ.S b off) : StOk w' (ρ.S.more b k) foot' (bs2 ++ [z]) := by
  have hle := ρ.S.le_more b k
  have hcase : ∀ (i : Nat) (x : D), (bs2 ++ [z])[i]? = some x → (i = ρ.S.n ∧ x = z) ∨ (i < ρ.S.n ∧ bs2[i]? = some x) := by
    intro i x hi
    rw [List.getElem?_append] at hi
    split at hi
    · rename_i hlt
      exact .inr ⟨by rw [hst.n, ← hl2]; exact hlt, hi⟩
    · rename_i hge
      have hi0 : i - bs2.length = 0 := by
        have := (List.getElem?_eq_some_iff.1 hi).1
        simp at this
        omega
      rw [hi0] at hi
      simp only [List.getElem?_cons_zero, Option.some.injEq] at hi
      exact .inl ⟨by rw [hst.n, ← hl2]; omega, hi.symm⟩
  have h1 : (ρ.S.more b k).loc ρ.S.n = b := by simp [Sets.more]
  have h2 : (ρ.S.more b k).cap ρ.S.n = k := by simp [Sets.more]
  refine ⟨by simp [Sets.more, hst.n, hl2], fun i e' sz' cs' hi => ?_, fun c off hc hs => ?_, fun i kvs hi => ?_, fun i j x y hi hj hx hy hl => ?_⟩
  · rcases hcase i _ hi with ⟨rfl, hz⟩ | ⟨hlt, hi⟩
    · rw [h1, h2]
      obtain ⟨vs, g1, g2, g3, g4, g5⟩ := hz1 _ _ _ hz.symm
      exact ⟨(hf b).2 (.inr rfl), vs, g1, g2, g3, g4, fun j v d hv hd => (g5 j v d hv hd).keep hK hle, hS⟩
    · obtain ⟨hi', hne, hh⟩ := hold i _ hi rfl
      obtain ⟨g1, us, g2, g3, g4, g5, g6, g7⟩ := hst.cells i _ _ _ hi'
      rw [hle.loc i hlt, hle.cap i hlt]
      exact ⟨(hf _).2 (.inl g1), us, by rw [hh]; exact g2, g3, g4, g5, fun j v d hv hd => (g6 j v d hv hd).keep hK hle, g7⟩
  · rcases (hf c).1 hc with h1 | rfl
    · exact hst.nos c off h1 hs
    · exact hS off hs
  · rcases hcase i _ hi with ⟨rfl, hz⟩ | ⟨hlt, hi⟩
    · rw [h1]
      obtain ⟨es, clock, g1, g2, g3⟩ := hz2 _ hz.symm
      refine ⟨(hf b).2 (.inr rfl), es, clock, g1, g2, hS, fun j e kv he hkv => ?_⟩
      obtain ⟨dk, dv, g4, g5, g6⟩ := g3 j e kv he hkv
      exact ⟨dk, dv, g4, g5.keep hK hle, g6.keep hK hle⟩
    · obtain ⟨hi', hne, hh⟩ := hold i _ hi rfl
      obtain ⟨g1, es, clock, g2, g3, g4, g5⟩ := hst.maps i _ hi'
      rw [hle.loc i hlt]
      refine ⟨(hf _).2 (.inl g1), es, clock, by rw [hh]; exact g2, g3, g4, fun j e kv he hkv => ?_⟩
      obtain ⟨dk, dv, g6, g7, g8⟩ := g5 j e kv he hkv
      exact ⟨dk, dv, g6, g7.keep hK hle, g8.keep hK hle⟩
  · rcases hcase i _ hi with ⟨rfl, _⟩ | ⟨hlt, hi⟩ <;> rcases hcase j _ hj with ⟨rfl, _⟩ | ⟨hlt', hj⟩
    · rfl
    · rw [hle.loc j hlt', h1] at hl
      exact absurd hl.symm (hold j _ hj hy).2.1
    · rw [hle.loc i hlt, h1] at hl
      exact absurd hl (hold i _ hi hx).2.1
    · rw [hle.loc i hlt, hle.loc j hlt'] at hl
      exact hst.inj i j _ _ (hold i _ hi hx).1 (hold j _ hj hy).1 hx hy hl

theorem stOk_more {w' : World} {bs bs2 : List D} {vs : Array Value} {e : TypeId} {sz k b : Nat} {cs : List D} {foot' : Nat → Prop} (hst : StOk w ρ.S ρ.foot bs) (hK : Keeps ρ.S w w') (hl2 : bs2.length = bs.length) (hold : ∀ (i : Nat) (x : D), bs2[i]? = some x → x.live = true → bs[i]? = some x ∧ ρ.S.loc i ≠ b ∧ w'.heap[ρ.S.loc i]? = w.heap[ρ.S.loc i]?)
    (hf : ∀ c, foot' c ↔ (ρ.foot c ∨ c = b)) (hb : w'.heap[b]? = some (.cells vs e (0, 0))) (hvs : vs.size = k * sz) (hcl : cs.length ≤ vs.size) (hone : ∀ (j : Nat) (d : D), cs[j]? = some d → d.one = true)
    (hr : ∀ (j : Nat) (v : Value) (d : D), vs[j]? = some v → cs[j]? = some d → RdD w ρ.S v d) (hS : ∀ off, ¬ ρ.S b off) : StOk w' (ρ.S.more b k) foot' (bs2 ++ [.blk e sz cs]) := by
  refine stOk_moreG hst hK hl2 hold hf (fun e' sz' cs' hz => ?_) (fun kvs hz => by cases hz) hS
  cases hz
  exact ⟨vs, hb, hvs, hcl, hone, hr⟩

theorem foot_lt' (h : Rep w0 X w a σ env ρ) {cf : StCfg} {x : E} (hx : σ.obj HID = some (.store cf x)) {b : Nat} (hb : ρ.foot b) : b < w.heap.size := foot_lt h hx b hb

/-- A new block of the store. -/
theorem Rep.newStoreG (h : Rep w0 X w a σ env ρ) {cf : StCfg} {x x' : E} (hob : σ.obj HID = some (.store cf x)) (hro : cf.ro = false) {bs : List D} (hbe : x.eval env = some (.st bs)) {ob : Obj} {k : Nat} {z : D}
    (hz1 : ∀ e sz cs, z = .blk e sz cs → ∃ vs : Array Value, ob = .cells vs e (0, 0) ∧ vs.size = k * sz ∧ cs.length ≤ vs.size ∧ (∀ (j : Nat) (d : D), cs[j]? = some d → d.one = true) ∧ ∀ (j : Nat) (v : Value) (d : D), vs[j]? = some v → cs[j]? = some d → RdD w ρ.S v d)
    (hz2 : ∀ kvs, z = .mblk kvs → ∃ (es : Array MapEntry) (clock : Nat), ob = .map es clock ∧ es.size = kvs.length ∧ ∀ (j : Nat) (e : MapEntry) (kv : D), es[j]? = some e → kvs[j]? = some kv → ∃ dk dv, kv = .tup [dk, dv] ∧ RdD w ρ.S e.key dk ∧ RdD w ρ.S e.val dv)
    (hx' : x'.eval env = some (.st (bs ++ [z]))) :
    Rep w0 X (w.alloc ob) a (σ.setObj HID (some (.store cf x'))) env { ρ with S := ρ.S.more w.heap.size k, foot := fun c => ρ.foot c ∨ c = w.heap.size } ∧ ρ.S.n = bs.length := by
  obtain ⟨bs0, hb0, hst, _⟩ := h.objs _ _ hob
  rw [hbe] at hb0
  cases hb0
  have hK : Keeps ρ.S w (w.alloc ob) := Keeps.alloc h.cells _
  have hfl : ∀ b, ρ.foot b → b < w.heap.size := foot_lt h hob
  refine ⟨h.setStore hob hro hx' (stOk_moreG hst hK rfl (fun i x hi hx => ?_) (fun _ => Iff.rfl) (fun e sz cs hz => ?_) (fun kvs hz => ?_) fun off hs => ?_) hK (ρ.S.le_more _ _) rfl rfl rfl (by simp) (fun b hb _ => heapOld w _ b hb) (fun b hb => ?_) (fun b o hs => .inl hs) (fun b o hs => ?_), hst.n⟩
  · have := hfl _ (hst.live_foot hi hx)
    exact ⟨hi, Nat.ne_of_lt this, heapOld w _ _ this⟩
  · obtain ⟨vs, rfl, g⟩ := hz1 e sz cs hz
    exact ⟨vs, heap_alloc_new w _, g⟩
  · obtain ⟨es, clock, rfl, g⟩ := hz2 kvs hz
    exact ⟨es, clock, heap_alloc_new w _, g⟩
  · have := h.cells _ off hs; omega
  · rcases hb with hb | rfl
    · exact ⟨.inl hb, by have := hfl b hb; simp; omega⟩
    · exact ⟨.inr (Nat.le_refl _), by simp⟩
  · have := h.cells b o hs; simp; omega

theorem Rep.newStore (h : Rep w0 X w a σ env ρ) {cf : StCfg} {x x' : E} (hob : σ.obj HID = some (.store cf x)) (hro : cf.ro = false) {bs : List D} (hbe : x.eval env = some (.st bs)) {vs : Array Value} {e : TypeId} {sz k : Nat} {cs : List D} (hvs : vs.size = k * sz) (hcl : cs.length ≤ vs.size) (hone : ∀ (j : Nat) (d : D), cs[j]? = some d → d.one = true)
    (hr : ∀ (j : Nat) (v : Value) (d : D), vs[j]? = some v → cs[j]? = some d → RdD w ρ.S v d) (hx' : x'.eval env = some (.st (bs ++ [.blk e sz cs]))) :
    Rep w0 X (w.alloc (.cells vs e)) a (σ.setObj HID (some (.store cf x'))) env { ρ with S := ρ.S.more w.heap.size k, foot := fun c => ρ.foot c ∨ c = w.heap.size } ∧ ρ.S.n = bs.length := by
  refine h.newStoreG hob hro hbe (fun e' sz' cs' hz => ?_) (fun kvs hz => by cases hz) hx'
  cases hz
  exact ⟨vs, rfl, hvs, hcl, hone, hr⟩

theorem cellsL_len {size : Nat} : ∀ {es : List D}, allCells size es = true → (cellsL es).length = es.length * size
  | [], _ => by simp [cellsL]
  | e :: es, h => by
    simp only [allCells, List.all_cons, Bool.and_eq_true, beq_iff_eq] at h
    have ih := cellsL_len (es := es) (size := size) (by simpa [allCells] using h.2)
    simp only [cellsL, List.flatMap_cons, List.length_append, List.length_cons] at ih ⊢
    rw [ih, h.1, Nat.add_mul, Nat.one_mul, Nat.add_comm]

theorem cellsL_get {size : Nat} (hs : 0 < size) : ∀ {es : List D}, allCells size es = true → ∀ {j : Nat} {d : D}, (cellsL es)[j]? = some d → ∃ e, es[j / size]? = some e ∧ e.cells[j % size]? = some d
  | [], _, j, d, h => by simp [cellsL] at h
  | e :: es, h, j, d, hj => by
    simp only [allCells, List.all_cons, Bool.and_eq_true, beq_iff_eq] at h
    simp only [cellsL, List.flatMap_cons] at hj
    rcases Nat.lt_or_ge j size with hlt | hge
    · rw [List.getElem?_append_left (by omega)] at hj
      exact ⟨e, by rw [Nat.div_eq_of_lt hlt]; rfl, by rw [Nat.mod_eq_of_lt hlt]; exact hj⟩
    · rw [List.getElem?_append_right (by omega), h.1] at hj
      obtain ⟨e', h1, h2⟩ := cellsL_get hs (es := es) (by simpa [allCells] using h.2) hj
      have hd : j / size = (j - size) / size + 1 := by
        rw [Nat.div_eq_sub_div hs hge]
      have hm : j % size = (j - size) % size := by rw [Nat.mod_eq_sub_mod hge]
      exact ⟨e', by rw [hd]; simpa using h1, by rw [hm]; exact h2⟩

/-- the cells of a row, one behind the other -/
theorem RowRd.flat {S : Sets} {size : Nat} {xs : List Value} {es : List D} (hs : 0 < size) (h : RowRd w S size xs es) : allCells size es = true ∧ (cellsL es).length = xs.length ∧ ∀ (j : Nat) (v : Value) (d : D), xs[j]? = some v → (cellsL es)[j]? = some d → RdD w S v d ∧ d.one = true := by
  obtain ⟨h1, h2, h3⟩ := h
  have hall : allCells size es = true := by
    unfold allCells
    rw [List.all_eq_true]
    intro e he
    obtain ⟨i, hi⟩ := List.getElem?_of_mem he
    simpa using h2 i e hi
  refine ⟨hall, by rw [cellsL_len hall, h1], fun j v d hv hd => ?_⟩
  obtain ⟨e, he, hd'⟩ := cellsL_get hs hall hd
  obtain ⟨g1, u, g2, g3⟩ := h3 _ e _ d he hd'
  have hdm : j / size * size + j % size = j := by rw [Nat.mul_comm]; exact Nat.div_add_mod j size
  rw [hdm, hv] at g2
  cases g2
  exact ⟨g3, g1⟩

/-- the address of the block that has just come -/
theorem fstid_rd {w' : World} {k : Nat} {hx : E} {bs : List D} {foot' : Nat → Prop} (hbe : hx.eval env = some (.st bs)) (hn : ρ.S.n = bs.length) : SRd w' { ρ with S := ρ.S.more w.heap.size k, foot := foot' } env (.pointer (some ⟨w.heap.size, 0, none⟩)) (.e (.fstid hx) true) := by
  refine .e (d := .loc bs.length 0) (by simp only [E.eval, hbe]; rfl) ?_ fun _ => rfl
  have := RdD.loc (w := w') (S := ρ.S.more w.heap.size k) (i := bs.length) (off := 0) (by simp [Sets.more, hn])
  have hl : (ρ.S.more w.heap.size k).loc bs.length = w.heap.size := by simp [Sets.more, hn]
  rwa [hl] at this

theorem fstsl_rd {w' : World} {hx y : E} {bs : List D} {es : List D} {foot' : Nat → Prop} (hbe : hx.eval env = some (.st bs)) (hye : y.eval env = some (.lst es)) (hm : es.length ≤ maxLen) (hn : ρ.S.n = bs.length) : SRd w' { ρ with S := ρ.S.more w.heap.size es.length, foot := foot' } env (.slice (some ⟨w.heap.size, 0, none⟩) es.length es.length) (.e (.fstsl hx y) true) := by
  refine .e (d := .sl bs.length 0 es.length) (by simp only [E.eval, hbe, hye]; rfl) ?_ fun _ => rfl
  have := RdD.sl (w := w') (S := ρ.S.more w.heap.size es.length) (i := bs.length) (off := 0) (len := es.length) (c := es.length) (by simp [Sets.more, hn]) (Nat.le_refl _) hm (fun _ => by simp [Sets.more, hn])
  have hl : (ρ.S.more w.heap.size es.length).loc bs.length = w.heap.size := by simp [Sets.more, hn]
  rwa [hl] at this

theorem lmake_run {o : Oper} {t : TypeId} {n c : Operand} {sn sc : SV} {ix dd : Nat} {r : LRes} {y : E} {dl : D} (ho : o.op = .makeSlice t n c) (hl : lmake P t sn sc (some dd) ix = some r) (hn : SRd w ρ env (a.eval n) sn) (hc : SRd w ρ env (a.eval c) sc) (hy : r.bind = some (.ev y)) (hyv : y.eval env = some dl) :
    ∃ (e : TypeId) (i : TypeInfo) (es : List D) (vs : Array Value), P.underlying t = some (.slice e) ∧ P.info? e = some i ∧ dl = .lst es ∧ (execOp a.eval o).run P w = .ok (.value (.slice (some ⟨w.heap.size, 0, none⟩) es.length es.length)) (w.alloc (.cells vs e)) ∧ vs.size = es.length * i.size ∧ es.length ≤ maxLen ∧ RowRd w ρ.S i.size vs.toList es := by
  unfold lmake at hl
  split at hl
  · rename_i d e n' c' hdst hu hn' hc'
    split at hl
    · rename_i i hi
      obtain ⟨z, hz, hl⟩ := Option.bind_eq_some_iff.1 hl
      obtain ⟨dz, hdz, hl⟩ := Option.bind_eq_some_iff.1 hl
      split at hl
      · rename_i hcond
        cases hl
        cases hy
        obtain ⟨hsame, hlen, htup⟩ := hcond
        obtain ⟨dn, hdn, hrn⟩ := SV.toE_rd hn' hn
        obtain ⟨dc, hdc, hrc⟩ := SV.toE_rd hc' hc
        rw [← E.same_eq hsame, hdn] at hdc
        cases hdc
        simp only [E.eval, hdn, Option.bind_some] at hyv
        unfold D.rep at hyv
        split at hyv
        · rename_i k
          split at hyv
          · rename_i hk
            obtain ⟨hk0, hkb, hkm⟩ := hk
            cases hyv
            have hzr : RdD w ρ.S z dz := D.ofVal_rd hdz
            obtain ⟨hzl, hzc⟩ := hzr.cellAt htup
            rw [hlen] at hzl
            have hk63 : k ≤ 9223372036854775807 := by
              have h9 : k.toNat ≤ 9223372036854775807 := hkm
              omega
            have hbytes : (i.bytes : Int) * k ≤ 281474976710656 := by
              have h1 : ((k.toNat * i.bytes : Nat) : Int) ≤ 140737488355328 := by
                generalize k.toNat * i.bytes = q at hkb ⊢
                omega
              rw [Int.natCast_mul, Int.toNat_of_nonneg hk0, Int.mul_comm] at h1
              omega
            have hrun : (execOp a.eval o).run P w = .ok (.value (.slice (some ⟨w.heap.size, 0, none⟩) k.toNat k.toNat)) (w.alloc (.cells (madeCells z.cells (k.toNat * i.size)) e)) := by
              unfold execOp
              simp only [ho, hrn.v_eq, hrc.v_eq, Sem.run_bind, run_make w t e i z hu hi hz .i64 .i64 k k hk0 (Int.le_refl _) hbytes hk63, Result.andThen_ok, Sem.run_pure]
            have hrepl : ∀ (m : Nat) (x : D), (List.replicate k.toNat dz)[m]? = some x → x = dz ∧ m < k.toNat := by
              intro m x hx
              rw [List.getElem?_replicate] at hx
              split at hx
              · cases hx; exact ⟨rfl, by assumption⟩
              · cases hx
            refine ⟨e, i, List.replicate k.toNat dz, madeCells z.cells (k.toNat * i.size), hu, hi, rfl, by simpa using hrun, by simp [size_madeCells], by simpa using hkm, by simp [size_madeCells], fun m x hx => by rw [(hrepl m x hx).1]; exact hlen, fun m x j y hx hy => ?_⟩
            obtain ⟨rfl, hmk⟩ := hrepl m x hx
            obtain ⟨h1, u, h2, h3⟩ := hzc j y hy
            have hj : j < i.size := by rw [← hlen]; exact (List.getElem?_eq_some_iff.1 hy).1
            refine ⟨h1, u, ?_, h3⟩
            have hlt : m * i.size + j < k.toNat * i.size := by
              have : (m + 1) * i.size ≤ k.toNat * i.size := Nat.mul_le_mul_right _ hmk
              rw [Nat.add_mul, Nat.one_mul] at this
              omega
            have hmod : (m * i.size + j) % i.size = j := by rw [Nat.mul_comm, Nat.mul_add_mod, Nat.mod_eq_of_lt hj]
            have hjz : j < z.cells.size := by rw [hzl]; exact hj
            have hu' : u = z.cells[j] := by rw [Array.getElem?_eq_getElem hjz] at h2; exact (Option.some.inj h2).symm
            rw [Array.getElem?_toList]
            simp only [madeCells, Array.getElem?_map, Array.getElem?_range, hlt, if_true, Option.map_some, hzl, hmod, Option.some.injEq]
            rw [hu']
            exact getElem!_pos z.cells j hjz
          · cases hyv
        · cases hyv
      · cases hl
    · cases hl
  · cases hl

/-- an 'append' to a slice of the store: what it leaves -/
theorem apph_fin {o : Oper} {t e : TypeId} {s x : Operand} {i : TypeInfo} {z : Value} {cf : StCfg} {hx s' x' : E} {ix m n : Nat} {bs bs2 : List D} {ys cs : List D} {xs : List Value} (ho : o.op = .call { callee := .builtin .append, args := #[s, x], argTypes := #[t, t] }) (hu : P.underlying t = some (.slice e)) (hi : P.info? e = some i) (hz : i.zero = some z) (hzs : z.cells.size = i.size) (hpos : 0 < i.size)
    (hob : σ.obj HID = some (.store cf hx)) (hro : cf.ro = false) (hbe : hx.eval env = some (.st bs)) (hrx : RdD w ρ.S (a.eval x) (.lst ys)) (hne : ys ≠ []) (hym : ys.length = m) (hall : allCells i.size ys = true) (hone1 : (cellsL ys).all (·.one) = true) (hone0 : ∀ (j : Nat) (d : D), cs[j]? = some d → d.one = true)
    (hown : w.ownsRow 0 e i.size (a.eval s) n xs) (hcl : cs.length = n * i.size) (hxr : ∀ (j : Nat) (v : Value) (d : D), xs[j]? = some v → cs[j]? = some d → RdD w ρ.S v d) (hml : n + m ≤ maxLen) (hby : (n + m) * i.bytes ≤ 140737488355328)
    (hl2 : bs2.length = bs.length) (hown2 : ∀ b, (a.eval s).ownBlock = some b → ρ.foot b ∧ (∀ off, ¬ ρ.S b off) ∧ ∀ (j : Nat) (x : D), bs2[j]? = some x → x.live = true → ρ.S.loc j ≠ b) (hold : ∀ (j : Nat) (x : D), bs2[j]? = some x → x.live = true → bs[j]? = some x)
    (hix : env[ix]? = some (.st (bs2 ++ [.blk e i.size (cs ++ cellsL ys)]))) (hval : (E.apps hx s' x').eval env = some (.sl bs.length 0 (n + m))) (h : Rep w0 X w a σ env ρ) (hd : ∀ d, o.dst = some d → d < σ.tmps.length) :
    OpOk P o a w w0 X ((σ.setObj HID (some (.store cf (.sym ix)))).put o.dst (.e (.apps hx s' x') true)) env := by
  obtain ⟨bs0, hb0, hst, _⟩ := h.objs _ _ hob
  rw [hbe] at hb0
  cases hb0
  have hfl := foot_lt h hob
  rcases news_of hrx hall with ⟨_, rfl⟩ | ⟨ad, m', c, news, hvx, hym', hnl, hcells, hone, hnrow⟩
  · exact absurd rfl hne
  · obtain rfl : m' = m := by omega
    obtain ⟨v', w', hrun, hown', hcase⟩ := run_append_cases (P := P) w t o.type e i z i.size i.bytes hu hi hz rfl rfl hzs hpos (a.eval s) n xs hown ad m' c news hnl hcells hone hml hby
    rw [← hvx] at hrun
    obtain ⟨hall', hfl', hfr⟩ := hnrow.flat hpos
    have hmpos : 0 < m' := by
      rw [← hym']
      exact List.length_pos_iff.2 hne
    -- where it lies
    rcases hown'.2 with ⟨_, h0⟩ | ⟨g, cap, cur, rfl, _, hg, hnc, hcm, hcs, htake⟩
    · omega
    have hK : Keeps ρ.S w w' := by
      intro b off hS
      refine World.cell?_of_block (a := ⟨b, off, none⟩) ?_
      rcases hcase with ⟨hv', hgr⟩ | ⟨_, hgr⟩
      · refine hgr.block b (h.cells b off hS) fun he => ?_
        exact (hown2 b he.symm).2.1 off hS
      · exact hgr.block b (h.cells b off hS) (by simp)
    have hmeta : w'.os = w.os ∧ w'.tape = w.tape ∧ w'.output = w.output ∧ w.heap.size ≤ w'.heap.size := by
      rcases hcase with ⟨_, hgr⟩ | ⟨_, hgr⟩ <;> exact ⟨hgr.os, hgr.tape, hgr.output, hgr.size⟩
    have hgb : (ρ.foot g ∨ g = w.heap.size) ∧ (∀ off, ¬ ρ.S g off) ∧ (∀ (j : Nat) (x : D), bs2[j]? = some x → x.live = true → ρ.S.loc j ≠ g) ∧ g < w'.heap.size := by
      have hglt : g < w'.heap.size := (Array.getElem?_eq_some_iff.1 hg).1
      rcases hcase with ⟨hv', hgr⟩ | ⟨hv', hgr⟩
      · obtain ⟨g1, g2, g3⟩ := hown2 g hv'.symm
        exact ⟨.inl g1, g2, g3, hglt⟩
      · have hge : g = w.heap.size := by simpa [Value.ownBlock] using hv'
        refine ⟨.inr hge, fun off hs => ?_, fun j x hj hx hl => ?_, hglt⟩
        · have := h.cells g off hs; omega
        · have := hfl _ (hst.live_foot (hold j _ hj hx) hx); omega
    have hother : ∀ b, b < w.heap.size → b ≠ g → w'.heap[b]? = w.heap[b]? := by
      intro b hb hne'
      rcases hcase with ⟨hv', hgr⟩ | ⟨_, hgr⟩
      · refine hgr.block b hb fun he => ?_
        have : some b = some g := by rw [he, ← hv']; rfl
        cases this
        exact hne' rfl
      · exact hgr.block b hb (by simp)
    have hxl : xs.length = n * i.size := hown.1
    have hcurget : ∀ (j : Nat) (v : Value), cur[j]? = some v → j < (n + m') * i.size → (xs ++ news)[j]? = some v := by
      intro j v hj hlt
      rw [← htake, List.getElem?_take, if_pos hlt]
      simpa using hj
    have hnst : StOk w' (ρ.S.more g cap) (fun b => ρ.foot b ∨ b = g) (bs2 ++ [.blk e i.size (cs ++ cellsL ys)]) := by
      refine stOk_more hst hK hl2 (fun j x hj hx => ?_) (fun _ => Iff.rfl) hg hcs ?_ (fun j d hj => ?_) (fun j v d hv hdd => ?_) hgb.2.1
      · have hj' := hold j _ hj hx
        have := hgb.2.2.1 j _ hj hx
        exact ⟨hj', this, hother _ (hfl _ (hst.live_foot hj' hx)) this⟩
      · rw [List.length_append, hcl, hfl', hnl, hcs, ← Nat.add_mul]
        exact Nat.mul_le_mul_right _ hnc
      · rw [List.getElem?_append] at hj
        split at hj
        · exact hone0 j d hj
        · exact List.all_eq_true.1 hone1 d (List.mem_of_getElem? hj)
      · have hjl : j < (n + m') * i.size := by
          have := (List.getElem?_eq_some_iff.1 hdd).1
          rw [List.length_append, hcl, hfl', hnl, ← Nat.add_mul] at this
          exact this
        have hxn := hcurget j v hv hjl
        rw [List.getElem?_append] at hdd hxn
        split at hdd
        · rename_i hlt
          rw [if_pos (by omega)] at hxn
          exact hxr j v d hxn hdd
        · rename_i hlt
          rw [if_neg (by omega), hxl] at hxn
          rw [hcl] at hdd
          exact (hfr _ v d hxn hdd).1
    have hrep := h.setStore (x' := .sym ix) hob hro (by simp only [E.eval]; exact hix) hnst hK (ρ.S.le_more g cap) hmeta.1 hmeta.2.1 hmeta.2.2.1 hmeta.2.2.2 (fun b hb hnf => hother b hb fun e' => ?_) (fun b hb => ?_) (fun b off hs => .inl hs) (fun b off hs => Nat.lt_of_lt_of_le (h.cells b off hs) hmeta.2.2.2)
    · refine opOk_value (v := .slice (some ⟨g, 0, none⟩) (n + m') cap) ?_ (hrep.put (by rw [SState.tmps_setObj]; exact hd) (.e (d := .sl bs.length 0 (n + m')) hval ?_ fun _ => rfl))
      · unfold execOp
        simp only [ho, resolve, invoke, builtin, Sem.run_bind, Sem.run_pure, Result.andThen_ok, List.map_toArray, List.map_cons, List.map_nil, hrun]
      · have := RdD.sl (w := w') (S := ρ.S.more g cap) (i := bs.length) (off := 0) (len := n + m') (c := cap) (by simp [Sets.more, hst.n]) hnc hcm (fun _ => by simp [Sets.more, hst.n])
        have hl : (ρ.S.more g cap).loc bs.length = g := by simp [Sets.more, hst.n]
        rwa [hl] at this
    · subst e'
      rcases hgb.1 with h1 | h1
      · exact hnf h1
      · omega
    · rcases hb with hb | rfl
      · exact ⟨.inl hb, Nat.lt_of_lt_of_le (hfl b hb) hmeta.2.2.2⟩
      · refine ⟨?_, hgb.2.2.2⟩
        rcases hgb.1 with h1 | h1
        · exact .inl h1
        · exact .inr (by omega)

theorem lpub_sound {o : Oper} {opv : Operand → SV} {ix : Nat} {r : LRes} (hv : ∀ x, SRd w ρ env (a.eval x) (opv x)) (hl : lpub P o opv σ.obj ix = some r) (h : Rep w0 X w a σ env ρ) (hd : ∀ d, o.dst = some d → d < σ.tmps.length) (hb : BindOk P env ix r.bind) :
    (r.upd = none ∧ OpOk P o a w w0 X (σ.put o.dst r.val) env) ∨ ∃ z, r.upd = some (HID, z) ∧ OpOk P o a w w0 X ((σ.setObj HID (some z)).put o.dst r.val) env := by
  unfold lpub at hl
  split at hl
  case isFalse => cases hl
  unfold lpubC at hl
  split at hl
  · rename_i cf hx dd hob hdst
    obtain ⟨bs, hbe, hst, _⟩ := h.objs _ _ hob
    split at hl
    · cases hl
    rename_i hro
    have hro : cf.ro = false := by simpa using hro
    split at hl
    · rename_i t ho
      split at hl
      · split at hl
        · rename_i z hz
          split at hl
          · rename_i ds hds
            cases hl
            obtain ⟨d, he, hix⟩ := hb
            simp only [E.eval, hbe, Option.bind_some, D.newb] at he
            split at he
            · rename_i hone
              cases he
              obtain ⟨g1, g2⟩ := D.ofCells_rd (w := w) (S := ρ.S) hds
              have g1' : z.cells.size = ds.length := by simpa using g1
              have hrun : (execOp a.eval o).run P w = .ok (.value (.pointer (some ⟨w.heap.size, 0, none⟩))) (w.alloc (.cells z.cells t)) := by
                unfold execOp
                simp only [ho, Instr.alloc, Sem.run_bind, run_zeroValue hz, Result.andThen_ok, newVar, newRow, Sem.run_pure, run_newObj]
                rfl
              have hz1 : ∀ (j : Nat) (d : D), ds[j]? = some d → d.one = true := fun j d hj => List.all_eq_true.1 hone d (List.mem_of_getElem? hj)
              obtain ⟨hrep, hn⟩ := h.newStore (k := 1) (sz := z.cells.size) (cs := ds) (vs := z.cells) (e := t) (x' := .sym ix) hob hro hbe (by simp) (by omega) hz1 (fun j v d hj hd' => (g2 j v d (by simpa using hj) hd').1) (by simp only [E.eval]; exact hix)
              exact .inr ⟨_, rfl, opOk_value hrun (hrep.put (by rw [SState.tmps_setObj]; exact hd) (fstid_rd hbe hn))⟩
            · cases he
          · cases hl
        · cases hl
      · cases hl
    · rename_i t x ho
      split at hl
      · split at hl
        · rename_i agg n x' hg hn0 hxe
          split at hl
          · rename_i hag
            cases hl
            obtain ⟨dx, hdx, hrx⟩ := SV.toE_rd hxe (hv x)
            obtain ⟨d, he, hix⟩ := hb
            simp only [E.eval, hbe, Option.bind_some, Option.bind_eq_some_iff] at he
            obtain ⟨dc, hdc, he⟩ := he
            obtain ⟨cs, rfl, h1, h1a, h1b, h2, h3, h4⟩ := cellsE_rd hdx hrx hdc
            simp only [D.newb] at he
            split at he
            · rename_i hone
              cases he
              have hcn : cs.length = n := by
                cases agg with
                | true => exact h1a rfl
                | false => rw [h1b rfl]; exact (hag.resolve_left (by simp)).symm
              have hrun : (execOp a.eval o).run P w = .ok (.value (.pointer (some ⟨w.heap.size, 0, none⟩))) (w.alloc (.cells (a.eval x).cells t)) := by
                unfold execOp
                simp only [ho, Instr.box, Sem.run_bind, Result.andThen_ok, newVar, newRow, Sem.run_pure, run_newObj]
                rfl
              obtain ⟨hrep, hn⟩ := h.newStore (k := 1) (sz := n) (cs := cs) (vs := (a.eval x).cells) (e := t) (x' := .sym ix) hob hro hbe (by omega) (by omega) h3 h4 (by simp only [E.eval]; exact hix)
              exact .inr ⟨_, rfl, opOk_value hrun (hrep.put (by rw [SState.tmps_setObj]; exact hd) (fstid_rd hbe hn))⟩
            · cases he
          · cases hl
        · cases hl
      · cases hl
    · rename_i t n c ho
      split at hl
      · split at hl
        · rename_i v0 u0 y e hlm hu
          split at hl
          · rename_i i hi
            split at hl
            · rename_i hpos
              cases hl
              obtain ⟨d, he, hix⟩ := hb
              simp only [E.eval, hbe, Option.bind_some, Option.bind_eq_some_iff] at he
              obtain ⟨dl, hdl, he⟩ := he
              obtain ⟨e', i', es, vs, hu', hi', rfl, hrun, hvs, hml, hrow⟩ := lmake_run (ρ := ρ) (env := env) ho hlm (hv n) (hv c) rfl hdl
              rw [hu] at hu'
              cases hu'
              rw [hi] at hi'
              cases hi'
              obtain ⟨hall, hfl, hfr⟩ := hrow.flat hpos
              simp only [D.newv] at he
              split at he
              · cases he
                rename_i hall2
                have hone : ∀ (j : Nat) (d : D), (cellsL es)[j]? = some d → d.one = true := fun j d hj => List.all_eq_true.1 hall2.2 d (List.mem_of_getElem? hj)
                obtain ⟨hrep, hn⟩ := h.newStore (k := es.length) (sz := i.size) (cs := cellsL es) (vs := vs) (e := e) (x' := .sym ix) hob hro hbe hvs (by rw [hfl]; simp) hone (fun j v d hj hd' => (hfr j v d (by simpa using hj) hd').1) (by simp only [E.eval]; exact hix)
                exact .inr ⟨_, rfl, opOk_value hrun (hrep.put (by rw [SState.tmps_setObj]; exact hd) (fstsl_rd hbe hdl hml hn))⟩
              · cases he
            · cases hl
          · cases hl
        · cases hl
      · cases hl
    · rename_i x ho
      split at hl
      · split at hl
        · cases hl
          exact .inl ⟨rfl, opOk_same h hd (v := .slice none 0 0) (by unfold execOp; simp only [ho]; rfl) (.e rfl .snil fun _ => rfl)⟩
        · cases hl
      · cases hl
    · rename_i c ho
      obtain ⟨callee, args, ts⟩ := c
      simp only at hl
      split at hl
      · split at hl
        · rename_i s x t t' hargs hts
          split at hl
          · rename_i htt
            subst htt
            have e1 : args = #[s, x] := by rw [← Array.toArray_toList (xs := args), hargs]
            have e2 : ts = #[t, t] := by rw [← Array.toArray_toList (xs := ts), hts]
            subst e1 e2
            split at hl
            · rename_i s' sb x' e hs' hx' hu
              split at hl
              · rename_i i hi
                split at hl
                · rename_i z hz
                  split at hl
                  · rename_i hc
                    cases hl
                    have hvs := hv s
                    rw [hs'] at hvs
                    obtain ⟨ds, hds, hrs, _⟩ := hvs.e_inv
                    obtain ⟨dx, hdx, hrx⟩ := SV.toE_rd hx' (hv x)
                    obtain ⟨d, he, hix⟩ := hb
                    simp only [E.eval, hbe, hds, hdx, Option.bind_some] at he
                    refine .inr ⟨_, rfl, ?_⟩
                    unfold D.apph at he
                    split at he
                    · rename_i bs1 ys e3 _
                      cases e3
                      split at he
                      · cases he
                      · rename_i hne
                        split at he
                        · rename_i hcc
                          cases he
                          have hsv : a.eval s = .slice none 0 0 := by
                            generalize a.eval s = v at hrs
                            cases hrs
                            rfl
                          exact apph_fin (n := 0) (m := ys.length) (cs := []) (xs := []) (bs2 := bs) ho hu hi hz hc.1 hc.2 hob hro hbe hrx hne rfl hcc.2.2.1 hcc.2.2.2 (by simp) (by rw [hsv]; exact World.ownsRow_nil w 0 e i.size) (by simp) (by simp) (by simpa using hcc.2.1) (by simpa using hcc.1) rfl (fun b hb => by rw [hsv] at hb; cases hb) (fun j _ hj _ => hj) (by simpa using hix) (by simp only [E.eval, hbe, hds, hdx, Option.bind_some, D.apps, Nat.zero_add]) h hd
                        · cases he
                    · rename_i bs1 k off n ys e3 _
                      cases e3
                      split at he
                      · cases he
                      · rename_i hne
                        obtain ⟨blk, hblk, he⟩ := Option.bind_eq_some_iff.1 he
                        split at he
                        · rename_i hcc
                          cases he
                          obtain ⟨c0, c1, c2, c3, c4, c5, c6, c7⟩ := hcc
                          subst c0
                          have hbs := cellsAt_some hblk
                          rw [c1, c2] at hbs
                          obtain ⟨hf, vs, hh, hsz, hlen, hone, hr, hns⟩ := hst.cells k _ _ _ hbs
                          generalize hsv : a.eval s = v at hrs
                          cases hrs with
                          | @sl _ _ _ cc hk hle hcm h0 =>
                          have hcap := h0 rfl
                          have hown : w.ownsRow 0 e i.size (a.eval s) n (vs.toList.take (n * i.size)) := by
                            refine ⟨?_, .inr ⟨ρ.S.loc k, cc, vs, hsv, Nat.zero_le _, hh, hle, hcm, by rw [hcap]; exact hsz, rfl⟩⟩
                            rw [List.length_take, Array.length_toList]
                            omega
                          refine apph_fin (n := n) (m := ys.length) (cs := blk.2.2) (xs := vs.toList.take (n * i.size)) (bs2 := bs.set k (.tup [])) ho hu hi hz hc.1 hc.2 hob hro hbe hrx hne rfl c6 c7 hone hown c3 (fun j v d hj hdd => ?_) c5 c4 (by simp) (fun b hb => ?_) (fun j x hj hx => ?_) hix (by simp only [E.eval, hbe, hds, hdx, Option.bind_some, D.apps]) h hd
                          · rw [List.getElem?_take] at hj
                            split at hj
                            · exact hr j v d (by simpa using hj) hdd
                            · cases hj
                          · rw [hsv] at hb
                            have hb' : ρ.S.loc k = b := by simpa [Value.ownBlock] using hb
                            subst hb'
                            refine ⟨hf, hns, fun j x hj hx hl => ?_⟩
                            rw [List.getElem?_set] at hj
                            split at hj
                            · split at hj <;> cases hj
                              cases hx
                            · rename_i hne'
                              exact hne' (hst.inj j k _ _ hj hbs hx rfl hl).symm
                          · rw [List.getElem?_set] at hj
                            split at hj
                            · split at hj <;> cases hj
                              cases hx
                            · exact hj
                        · cases he
                    · cases he
                  · cases hl
                · cases hl
              · cases hl
            · cases hl
          · cases hl
        · cases hl
      · cases hl
    · cases hl
  · cases hl

end
end Go.Am
