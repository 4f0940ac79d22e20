/-
  Slices that grow: the right to append is an object of the call's own; what is appended can be read by everybody.
-/
import Derived.Test.YtnenlnmfoocpdaaAmStep4
import Derived.Great.BuildSlice
set_option linter.unusedSimpArgs false
set_option linter.unusedVariables false
namespace Go.Am

/-! ## append, with where the new slice lies -/

section
variable {P : Program} (w : World)

theorem run_append_cases (t ty e : TypeId) (i : TypeInfo) (z : Value) (size bytes : Nat) (ht : P.underlying t = some (.slice e)) (hi : P.info? e = some i) (hz : i.zero = some z)
    (hsize : i.size = size) (hby : i.bytes = bytes) (hzs : z.cells.size = size) (hsz : 0 < size)
    (v : Value) (n : Nat) (xs : List Value) (hown : w.ownsRow 0 e size v n xs)
    (a : Addr) (m c : Nat) (news : List Value) (hl : news.length = m * size) (hnews : ∀ j u, news[j]? = some u → w.cell? (a.add j) = some u) (h1 : ∀ u ∈ news, u.oneCell' = true)
    (h63 : n + m ≤ maxLen) (hbytes : (n + m) * bytes ≤ 140737488355328) :
    ∃ v' w', (Builtin.append_ #[t, t] ty #[v, .slice (some a) m c]).run P w = .ok v' w' ∧ w'.ownsRow 0 e size v' (n + m) (xs ++ news) ∧
      ((v'.ownBlock = v.ownBlock ∧ w.grownBy w' v.ownBlock) ∨ (v'.ownBlock = some w.heap.size ∧ w.grownBy w' none)) := by
  subst hsize
  subst hby
  have hsmall : n + m ≤ 9223372036854775807 := by simp only [maxLen] at h63; omega
  have hlen : (xs ++ news).length = (n + m) * i.size := by rw [List.length_append, hown.1, hl, Nat.add_mul]
  have grown : ∀ (old : Nat), old < n + m →
      (w.drew.alloc (.cells (xs.toArray ++ news.toArray ++ Builtin.zeroCells z.cells (grownCap w (n + m) old e - (n + m))) e)).ownsRow 0 e i.size
        (.slice (some ⟨w.heap.size, 0, none⟩) (n + m) (grownCap w (n + m) old e)) (n + m) (xs ++ news) ∧
      w.grownBy (w.drew.alloc (.cells (xs.toArray ++ news.toArray ++ Builtin.zeroCells z.cells (grownCap w (n + m) old e - (n + m))) e)) none := by
    intro old ho
    have hge := grownCap_ge w (n + m) old e
    have hcm : grownCap w (n + m) old e ≤ maxLen := grownCap_le_maxLen w (n + m) old e h63
    refine ⟨⟨hlen, .inr ⟨w.heap.size, _, _, rfl, Nat.zero_le _, heap_alloc_new w.drew _, hge, hcm, ?_, ?_⟩⟩, ⟨rfl, rfl, rfl, by simp, fun k hk _ => heapOld w.drew _ k hk⟩⟩
    · simp only [Array.size_append, List.size_toArray, size_zeroCells, hzs, hown.1, hl, ← Nat.add_mul]
      congr 1
      omega
    · simp only [Array.toList_append, List.append_assoc]
      rw [← List.append_assoc, ← hlen]
      exact List.take_left
  rcases hown.2 with ⟨rfl, rfl⟩ | ⟨g, cap, cur, rfl, hbg, hg, hnc, hcm, hcs, htake⟩
  · have hx : xs = [] := List.eq_nil_of_length_eq_zero (by simpa using hown.1)
    subst hx
    by_cases hm : m = 0
    · subst hm
      have hn : news = [] := List.eq_nil_of_length_eq_zero (by simpa using hl)
      subst hn
      refine ⟨.slice none 0 0, w, ?_, World.ownsRow_nil w 0 e i.size, .inl ⟨rfl, ⟨rfl, rfl, rfl, Nat.le_refl _, fun _ _ _ => rfl⟩⟩⟩
      simp [Builtin.append_, run_underlying ht, sizeOf, typeInfo, hi, Builtin.lenOf, Builtin.firstCells, loadCells, loadCellsFrom]
    · have hr := run_append_nil (P := P) w t ty e i z ht hi hz a m c news hl hnews (by omega) (by omega) (by have hb := hbytes; simp only [Nat.zero_add] at hb; omega)
      have hgr := grown 0 (by omega)
      simp only [Nat.zero_add, List.nil_append, Array.empty_append] at hgr ⊢
      exact ⟨_, _, hr, hgr.1, .inr ⟨rfl, hgr.2⟩⟩
  · by_cases hroom : n + m ≤ cap
    · have hfit : n * i.size + news.length ≤ cur.size := by rw [hl, hcs, ← Nat.add_mul]; exact Nat.mul_le_mul_right _ hroom
      have hr := run_append_room (P := P) w t ty e i ht hi g n cap cur hg a m c news hl hnews h1 hroom hfit
      refine ⟨_, _, hr, ⟨hlen, .inr ⟨g, cap, _, rfl, hbg, setRow_heap w g cur _ e _ hg, hroom, hcm, ?_, ?_⟩⟩, .inl ⟨rfl, ⟨rfl, rfl, rfl, by simp, fun k _ hk => setRow_other w g k _ (fun e => hk (by simp [Value.ownBlock, e]))⟩⟩⟩
      · simp only [List.size_toArray, List.length_append, List.length_take, List.length_drop, Array.length_toList]
        omega
      · rw [htake, ← hlen]
        exact List.take_left
    · have holds : ∀ j u, xs[j]? = some u → w.cell? ((⟨g, 0, none⟩ : Addr).add j) = some u := hown.cells (g := g) rfl
      have hr := run_append_grow (P := P) w t ty e i z ht hi hz ⟨g, 0, none⟩ n cap xs hown.1 holds a m c news hl hnews (by omega) (by omega) (growslice_fits (by omega) hbytes)
      have hgr := grown cap (by omega)
      exact ⟨_, _, hr, hgr.1, .inr ⟨rfl, hgr.2⟩⟩

/-- nothing is appended -/
theorem run_append_none (t ty e : TypeId) (i : TypeInfo) (ht : P.underlying t = some (.slice e)) (hi : P.info? e = some i) (ad : Option Addr) (n cap : Nat) (hn : n ≤ cap) :
    (Builtin.append_ #[t, t] ty #[.slice ad n cap, .slice none 0 0]).run P w = .ok (.slice ad n cap) w := by
  cases ad <;> simp [Builtin.append_, run_underlying ht, sizeOf, typeInfo, hi, Builtin.lenOf, Builtin.firstCells, loadCells, hn, storeCells]

end

/-! ## a slice's right to grow is taken back: what is left can be read -/

mutual
def SV.down (k : Nat) : SV → SV
  | .own x k' => if k' = k then .e x true else .own x k'
  | .agg cs => .agg (SV.downs k cs)
  | .tup cs => .tup (SV.downs k cs)
  | .func fn cs => .func fn (SV.downs k cs)
  | .cond act sv => .cond act (sv.down k)
  | .junk => .junk
  | .e x s => .e x s
  | .iptr x f => .iptr x f
  | .addr o f => if o = k then .junk else .addr o f
  | .eaddr o x s f => if o = k then .junk else .eaddr o x s f
  | .slc o => if o = k then .junk else .slc o
def SV.downs (k : Nat) : List SV → List SV
  | [] => []
  | s :: r => s.down k :: SV.downs k r
end

theorem SV.downs_get {k : Nat} : ∀ {cs : List SV} {i : Nat} {c : SV}, (SV.downs k cs)[i]? = some c → ∃ c', cs[i]? = some c' ∧ c = c'.down k
  | [], i, c, h => by simp [SV.downs] at h
  | s :: r, 0, c, h => by simp [SV.downs] at h; exact ⟨s, rfl, h.symm⟩
  | s :: r, i + 1, c, h => by
    simp [SV.downs] at h
    obtain ⟨c', h1, h2⟩ := SV.downs_get h
    exact ⟨c', by simpa using h1, h2⟩

theorem SV.downs_length {k : Nat} : ∀ (cs : List SV), (SV.downs k cs).length = cs.length
  | [] => rfl
  | _ :: r => by simp [SV.downs, SV.downs_length r]

mutual
theorem SV.down_avoids {k : Nat} : ∀ (sv : SV), (sv.down k).avoids k = true
  | .own x k' => by
    simp only [SV.down]
    split
    · rfl
    · simpa [SV.avoids] using (by assumption : ¬ k' = k)
  | .agg cs => by simp only [SV.down, SV.avoids]; exact SV.downs_avoids cs
  | .tup cs => by simp only [SV.down, SV.avoids]; exact SV.downs_avoids cs
  | .func fn cs => by simp only [SV.down, SV.avoids]; exact SV.downs_avoids cs
  | .cond act sv => by simp only [SV.down, SV.avoids]; exact SV.down_avoids sv
  | .junk | .e x s | .iptr x f => rfl
  | .addr o f => by
    simp only [SV.down]
    split
    · rfl
    · simpa [SV.avoids] using (by assumption : ¬ o = k)
  | .eaddr o x s f => by
    simp only [SV.down]
    split
    · rfl
    · simpa [SV.avoids] using (by assumption : ¬ o = k)
  | .slc o => by
    simp only [SV.down]
    split
    · rfl
    · simpa [SV.avoids] using (by assumption : ¬ o = k)
theorem SV.downs_avoids {k : Nat} : ∀ (cs : List SV), SV.avoidsAll k (SV.downs k cs) = true
  | [] => rfl
  | s :: r => by simp only [SV.downs, SV.avoidsAll, Bool.and_eq_true]; exact ⟨SV.down_avoids s, SV.downs_avoids r⟩
end

theorem SRd.down {w : World} {ρ : Rho} {env : List D} {v : Value} {sv : SV} (k : Nat) (h : SRd w ρ env v sv) : SRd w ρ env v (sv.down k) := by
  induction h with
  | junk => exact .junk
  | e hx h h1 => exact .e hx h h1
  | agg hl ho _ ih => exact .agg (by rw [SV.downs_length]; exact hl) ho fun i v c hv hc => by obtain ⟨c', h1, rfl⟩ := SV.downs_get hc; exact ih i v c' hv h1
  | tup hl _ ih => exact .tup (by rw [SV.downs_length]; exact hl) fun i v c hv hc => by obtain ⟨c', h1, rfl⟩ := SV.downs_get hc; exact ih i v c' hv h1
  | addr => simp only [SV.down]; split; exact .junk; exact .addr
  | eaddr hx => simp only [SV.down]; split; exact .junk; exact .eaddr hx
  | iptr hx h => exact .iptr hx h
  | own hx h hv =>
    simp only [SV.down]
    split
    · exact .e hx h fun _ => rfl
    · exact .own hx h hv
  | slc => simp only [SV.down]; split; exact .junk; exact .slc
  | func hl _ ih => exact .func (by rw [SV.downs_length]; exact hl) fun i v c hv hc => by obtain ⟨c', h1, rfl⟩ := SV.downs_get hc; exact ih i v c' hv h1
  | cond hd _ hn ih => exact .cond hd ih hn

def SObj.down (k : Nat) : SObj → SObj
  | .box cs => .box (SV.downs k cs)
  | x => x

def SState.down (k : Nat) (σ : SState) : SState := { tmps := SV.downs k σ.tmps, mem := (σ.mem.map fun x => x.map (SObj.down k)).set k none, hs := if k = HID then none else σ.hs.map (SObj.down k) }

theorem SObj.down_ok {w : World} {ρ : Rho} {env : List D} {o : Nat} {x : SObj} (k : Nat) (h : ObjOk w ρ env o x) : ObjOk w ρ env o (x.down k) := by
  cases x with
  | box cs =>
    obtain ⟨vs, ty, h1, h2, h3, h4, h5⟩ := h
    exact ⟨vs, ty, h1, by rw [SV.downs_length]; exact h2, h3, fun i v c hv hc => by obtain ⟨c', h6, rfl⟩ := SV.downs_get hc; exact (h4 i v c' hv h6).down k, h5⟩
  | row y sz => exact h
  | tok e sz => exact h
  | store cf x => exact h

theorem SObj.down_block (ρ : Rho) (o k : Nat) (x : SObj) : objBlk ρ o (x.down k) = objBlk ρ o x := by cases x <;> rfl

theorem SObj.down_avoids (k : Nat) (x : SObj) : (x.down k).avoids k = true := by
  cases x with
  | box cs => exact SV.downs_avoids cs
  | row y sz => rfl
  | tok e sz => rfl
  | store cf x => rfl

theorem SState.down_obj {σ : SState} {k o : Nat} {y : SObj} (hy : (σ.down k).obj o = some y) : o ≠ k ∧ ∃ x, σ.obj o = some x ∧ y = x.down k := by
  simp only [SState.obj, SState.down] at hy ⊢
  split at hy
  · rename_i ho
    subst ho
    split at hy
    · cases hy
    · rename_i hk
      obtain ⟨x, hx, rfl⟩ := Option.map_eq_some_iff.1 hy
      exact ⟨fun e => hk e.symm, x, by simpa using hx, rfl⟩
  · rename_i hh
    simp only [List.getD_eq_getElem?_getD, List.getElem?_set, List.getElem?_map, List.length_map] at hy
    rw [if_neg hh]
    simp only [List.getD_eq_getElem?_getD]
    split at hy
    · split at hy <;> simp at hy
    · rename_i hne
      refine ⟨fun e => hne e.symm, ?_⟩
      cases ho : σ.mem[o]? with
      | none => rw [ho] at hy; simp at hy
      | some z =>
        rw [ho] at hy
        cases z with
        | none => simp at hy
        | some x => simp at hy; exact ⟨x, rfl, hy.symm⟩

theorem SState.down_tmp {σ : SState} {k : Nat} (t : Nat) : (σ.down k).tmp t = (σ.tmp t).down k := by
  have go : ∀ (l : List SV) (t : Nat), (SV.downs k l).getD t .junk = (l.getD t .junk).down k := by
    intro l
    induction l with
    | nil => intro t; simp [SV.downs, SV.down]
    | cons s r ih =>
      intro t
      cases t with
      | zero => simp [SV.downs]
      | succ t => simpa [SV.downs] using ih t
  exact go σ.tmps t

theorem SState.down_avoids (σ : SState) (k : Nat) : (σ.down k).avoids k := by
  refine ⟨fun t => ?_, fun o y hy => ?_⟩
  · rw [SState.down_tmp]; exact SV.down_avoids _
  · obtain ⟨_, x, _, rfl⟩ := SState.down_obj hy
    exact SObj.down_avoids k x

theorem SState.down_len (σ : SState) (k : Nat) : (σ.down k).tmps.length = σ.tmps.length ∧ (σ.down k).mem.length = σ.mem.length := by
  simp [SState.down, SV.downs_length]

theorem SState.down_free (σ : SState) (k : Nat) : (σ.down k).obj k = none := by
  cases h : (σ.down k).obj k with
  | none => rfl
  | some y => exact absurd rfl (SState.down_obj h).1

section
variable {P : Program} {w w' w0 : World} {X : Ent} {a : Act} {σ : SState} {env : List D} {ρ : Rho}

theorem Rep.down (h : Rep w0 X w a σ env ρ) (k : Nat) : Rep w0 X w a (σ.down k) env ρ := by
  refine ⟨by rw [(σ.down_len k).1]; exact h.size, fun t => by rw [SState.down_tmp]; exact (h.tmps t).down k, fun o y hy => ?_, ?_, ?_, h.cells, h.os, h.tape, h.output, h.grown, h.old, h.sub, h.new, h.nod, h.hold⟩
  · obtain ⟨_, x, hx, rfl⟩ := SState.down_obj hy
    exact SObj.down_ok k (h.objs o x hx)
  · intro o o' y y' b h1 h2 h3 h4
    obtain ⟨_, x, hx, rfl⟩ := SState.down_obj h1
    obtain ⟨_, x', hx', rfl⟩ := SState.down_obj h2
    rw [SObj.down_block] at h3 h4
    exact h.inj o o' x x' b hx hx' h3 h4
  · intro o y b h1 h2
    obtain ⟨_, x, hx, rfl⟩ := SState.down_obj h1
    rw [SObj.down_block] at h2
    exact (by have := h.own o x b hx h2; cases x <;> exact this)

/-- the name k stands for the slice v of n elements, whose cells can be read from now on -/
def Rho.withTok (ρ : Rho) (k : Nat) (v : Value) (cells : Nat) : Rho := { ρ with val := fun x => if x = k then v else ρ.val x, S := ρ.S.or fun b i => v.ownBlock = some b ∧ i < cells }

theorem Rho.withTok_more (ρ : Rho) (k : Nat) (v : Value) (c : Nat) : ρ.More (ρ.withTok k v c) (· = k) :=
  ⟨⟨fun _ _ => rfl, fun x hx => by simp [Rho.withTok, hx], ρ.S.le_or _⟩, fun _ => rfl, fun _ => rfl⟩

theorem Rep.addTok (h : Rep w0 X w a σ env ρ) {k : Nat} (hk : k < σ.mem.length) (hfree : σ.obj k = none) (hav : σ.avoids k) {e : TypeId} {size : Nat} {v : Value} {n : Nat} {xs : List Value} (hown : w'.ownsRow 0 e size v n xs)
    (hK : Keeps ρ.S w w') (hb : ∀ o x b, σ.obj o = some x → objBlk ρ o x b → w'.heap[b]? = w.heap[b]? ∧ v.ownBlock ≠ some b) (hB : ∀ b, v.ownBlock = some b → w0.heap.size ≤ b ∨ X.may b)
    (hS : ∀ b, v.ownBlock = some b → ∀ off, n * size ≤ off → ¬ ρ.S b off) (hos : w'.os = w.os) (ht : w'.tape = w.tape) (hout : w'.output = w.output) (hsz : w.heap.size ≤ w'.heap.size)
    (hold : ∀ b, b < w0.heap.size → ¬ X.may b → w'.heap[b]? = w.heap[b]?) : Rep w0 X w' a (σ.setObj k (some (.tok e size))) env (ρ.withTok k v (n * size)) := by
  have hm := ρ.withTok_more k v (n * size)
  have hne : ∀ o y, σ.obj o = some y → o ≠ k := fun o y hy e => by rw [e, hfree] at hy; cases hy
  have hlt : ∀ b, v.ownBlock = some b → b < w'.heap.size := fun b hb' => (hown.lt b hb').2
  have hval : (ρ.withTok k v (n * size)).val k = v := by simp [Rho.withTok]
  refine ⟨by rw [SState.tmps_setObj]; exact h.size, fun t => by rw [SState.tmp_setObj]; exact (h.tmps t).keep hK hm fun o' e' => by subst e'; exact hav.1 t, ?_, ?_, ?_, ?_, hos.trans h.os, ht.trans h.tape, hout.trans h.output, Nat.le_trans h.grown hsz, fun b h1 h2 => (hold b h1 h2).trans (h.old b h1 h2), Sets.le_trans h.sub (ρ.S.le_or _), ?_, h.nod, h.hold⟩
  · intro o y hy
    rw [SState.obj_setObj hk] at hy
    by_cases e' : o = k
    · subst e'
      simp at hy
      subst hy
      refine ⟨n, xs, by rw [hval]; exact hown, fun b hb' off hoff hs => ?_⟩
      rw [hval] at hb'
      rcases hs with hs | ⟨_, hs⟩
      · exact hS b hb' off hoff hs
      · omega
    · simp [e'] at hy
      refine (h.objs o y hy).keep hK hm e' (fun o'' e'' => by subst e''; exact hav.2 o y hy) (fun b hb' => (hb o y b hy hb').1) fun b off hb' hs => ?_
      rcases hs with hs | ⟨hs, _⟩
      · exact hs
      · exact absurd hs (hb o y b hy hb').2
  · intro o1 o2 y1 y2 b h1 h2 h3 h4
    rw [SState.obj_setObj hk] at h1 h2
    by_cases e1 : o1 = k <;> by_cases e2 : o2 = k
    · rw [e1, e2]
    · subst e1; simp at h1; subst h1
      simp [e2] at h2
      rw [objBlk_more hm e2 (h.objs _ _ h2)] at h4
      simp only [objBlk, hval] at h3
      exact absurd h3 (hb o2 y2 b h2 h4).2
    · subst e2; simp at h2; subst h2
      simp [e1] at h1
      rw [objBlk_more hm e1 (h.objs _ _ h1)] at h3
      simp only [objBlk, hval] at h4
      exact absurd h4 (hb o1 y1 b h1 h3).2
    · simp [e1] at h1; simp [e2] at h2
      rw [objBlk_more hm e1 (h.objs _ _ h1)] at h3
      rw [objBlk_more hm e2 (h.objs _ _ h2)] at h4
      exact h.inj o1 o2 y1 y2 b h1 h2 h3 h4
  · intro o y b hy hb'
    rw [SState.obj_setObj hk] at hy
    by_cases e' : o = k
    · subst e'; simp at hy; subst hy
      simp only [objBlk, hval] at hb'
      exact ⟨.inr (hB b hb'), hlt b hb'⟩
    · simp [e'] at hy
      rw [objBlk_more hm e' (h.objs _ _ hy)] at hb'
      obtain ⟨h1, h2⟩ := h.own o y b hy hb'
      exact ⟨h1, Nat.lt_of_lt_of_le h2 hsz⟩
  · intro b o hs
    rcases hs with hs | ⟨hs, _⟩
    · exact Nat.lt_of_lt_of_le (h.cells b o hs) hsz
    · exact hlt b hs
  · intro b o hs
    rcases hs with hs | ⟨hs, _⟩
    · exact h.new b o hs
    · exact .inr (hB b hs)

/-- the cells of a slice read as data -/
def RowRd (w : World) (S : Sets) (size : Nat) (xs : List Value) (es : List D) : Prop :=
  xs.length = es.length * size ∧ (∀ (i : Nat) (e : D), es[i]? = some e → e.cells.length = size) ∧
  ∀ (i : Nat) (e : D) (j : Nat) (d : D), es[i]? = some e → e.cells[j]? = some d → d.one = true ∧ ∃ v, xs[i * size + j]? = some v ∧ RdD w S v d

theorem RowRd.keep {S S' : Sets} {size : Nat} {xs : List Value} {es : List D} (h : RowRd w S size xs es) (hk : Keeps S w w') (hS : S ≤ S') : RowRd w' S' size xs es :=
  ⟨h.1, h.2.1, fun i e j d he hd => let ⟨h1, v, h2, h3⟩ := h.2.2 i e j d he hd; ⟨h1, v, h2, h3.keep hk hS⟩⟩

theorem index_lt {es : List D} {size i j : Nat} {e d : D} (hz : ∀ (i : Nat) (e : D), es[i]? = some e → e.cells.length = size) (he : es[i]? = some e) (hd : e.cells[j]? = some d) : i * size + j < es.length * size ∧ j < size := by
  have hi : i < es.length := (List.getElem?_eq_some_iff.1 he).1
  have hj : j < size := by rw [← hz i e he]; exact (List.getElem?_eq_some_iff.1 hd).1
  refine ⟨?_, hj⟩
  have : (i + 1) * size ≤ es.length * size := Nat.mul_le_mul_right _ hi
  rw [Nat.add_mul, Nat.one_mul] at this
  omega

/-- What the call owns can be read. -/
theorem own_rd {S : Sets} {e : TypeId} {size n : Nat} {v : Value} {xs : List Value} {es : List D} (hown : w.ownsRow 0 e size v n xs) (hn : es.length = n) (hrow : RowRd w S size xs es) (hS : ∀ b, v.ownBlock = some b → ∀ i, i < n * size → S b i) : RdD w S v (.lst es) := by
  rcases hown.2 with ⟨rfl, rfl⟩ | ⟨g, cap, cur, rfl, _, hg, hnc, hcm, hcs, htake⟩
  · have : es = [] := List.eq_nil_of_length_eq_zero hn
    subst this
    exact .nil
  · refine .lst (size := size) (val := fun i j => xs.getD (i * size + j) undef) hn.symm hnc hcm hrow.2.1 (fun i e j d he hd => (hrow.2.2 i e j d he hd).1) (fun i e j d he hd => ?_) (fun i e j d he hd => ?_) fun i e j d he hd => ?_
    · refine hS g rfl _ ?_
      have := (index_lt hrow.2.1 he hd).1
      rw [hn] at this
      omega
    · obtain ⟨_, v, hv, _⟩ := hrow.2.2 i e j d he hd
      have := hown.cells (g := g) rfl (i * size + j) v hv
      rw [addr_add] at this
      simp only [List.getD_eq_getElem?_getD, hv, Option.getD_some]
      rw [show 0 + i * size + j = 0 + (i * size + j) from by omega]
      exact this
    · obtain ⟨_, v, hv, hr⟩ := hrow.2.2 i e j d he hd
      simp only [List.getD_eq_getElem?_getD, hv, Option.getD_some]
      exact hr

/-- A slice that the call owns, read as data: so its cells read. -/
theorem own_row {S : Sets} {e : TypeId} {size n : Nat} {v : Value} {xs : List Value} {es : List D} (hown : w.ownsRow 0 e size v n xs) (h : RdD w S v (.lst es)) (hz : allCells size es = true) : es.length = n ∧ RowRd w S size xs es := by
  have hzz : ∀ (i : Nat) (e : D), es[i]? = some e → e.cells.length = size := fun i e he => allCells_get hz he
  rcases hown.2 with ⟨rfl, rfl⟩ | ⟨g, cap, cur, rfl, _, hg, hnc, hcm, hcs, htake⟩
  · cases h
    have : xs = [] := List.eq_nil_of_length_eq_zero (by simpa using hown.1)
    subst this
    exact ⟨rfl, by simp, hzz, by simp⟩
  · cases h with
    | emp _ =>
      have : xs = [] := List.eq_nil_of_length_eq_zero (by simpa using hown.1)
      subst this
      exact ⟨rfl, by simp, hzz, by simp⟩
    | lst hl hc hm hz' ho hS hw hr =>
      refine ⟨hl.symm, by rw [hown.1, hl], hzz, fun i e j d he hd => ⟨ho i e j d he hd, ?_⟩⟩
      obtain ⟨hlt, hj⟩ := index_lt hzz he hd
      have hsz := (hz' i e he).symm.trans (hzz i e he)
      have hx : i * size + j < xs.length := by rw [hown.1, hl]; exact hlt
      refine ⟨xs[i * size + j], List.getElem?_eq_getElem hx, ?_⟩
      have h1 := hown.cells (g := g) rfl _ _ (List.getElem?_eq_getElem hx)
      have h2 := hw i e j d he hd
      rw [addr_add] at h1
      rw [hsz, show 0 + i * size + j = 0 + (i * size + j) from by omega, h1] at h2
      rw [Option.some.inj h2]
      exact hr i e j d he hd

end
end Go.Am
