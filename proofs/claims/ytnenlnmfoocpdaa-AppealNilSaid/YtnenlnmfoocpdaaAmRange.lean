/-
  A loop over a function: what a round does, and where a run goes on from.
-/
import Derived.Test.YtnenlnmfoocpdaaAmCompile
set_option linter.unusedSimpArgs false
set_option linter.unusedVariables false
namespace Go.Am

section
variable {P : Program}

theorem cell_putObj {w : World} {l : Nat} {r : Loop} (h : w.heap[l]? = some (.loop r)) (r' : Loop) (b o : Nat) : (w.putObj l (.loop r')).cell? ⟨b, o, none⟩ = w.cell? ⟨b, o, none⟩ := by
  by_cases e : b = l
  · subst e
    have h1 : w.cell? ⟨b, o, none⟩ = none := by simp [World.cell?, h]
    have h2 := World.putObj_heap_same (o := .loop r') (Array.getElem?_eq_some_iff.1 h).1
    rw [h1]
    simp [World.cell?, h2]
  · exact World.cell?_of_block (a := ⟨b, o, none⟩) (World.putObj_heap_other e)

theorem Keeps.putObj {w : World} {S : Sets} {l : Nat} {r : Loop} (h : w.heap[l]? = some (.loop r)) (r' : Loop) : Keeps S w (w.putObj l (.loop r')) := fun b o _ => cell_putObj h r' b o

/-- d is part of a block of the store -/
def PartOf (d x : D) : Prop := (∃ (e : TypeId) (sz : Nat) (cs : List D) (j : Nat), x = .blk e sz cs ∧ cs[j]? = some d) ∨ (∃ (kvs : List D) (j : Nat) (d1 d2 : D), x = .mblk kvs ∧ kvs[j]? = some (D.tup [d1, d2]) ∧ (d = d1 ∨ d = d2))

/-- The store lies in another world as it lay, where its blocks are the same. -/
theorem StOk.to {w w' : World} {S S' : Sets} {foot : Nat → Prop} {bs : List D} (h : StOk w S foot bs) (hS : S.Like S') (hm : ∀ b o, S' b o → S b o) (hb : ∀ b, foot b → w'.heap[b]? = w.heap[b]?)
    (hr : ∀ (v : Value) (d : D) (i : Nat) (x : D), bs[i]? = some x → PartOf d x → RdD w S v d → RdD w' S' v d) : StOk w' S' foot bs := by
  refine ⟨hS.n.symm.trans h.n, fun i e sz cs hi => ?_, fun b off hf hs => h.nos b off hf (hm _ _ hs), fun i kvs hi => ?_, fun i j x y hi hj hx hy e => h.inj i j x y hi hj hx hy (by rw [← hS.loc, ← hS.loc]; exact e)⟩
  · obtain ⟨hf, vs, g1, g2, g3, g4, g5, g6⟩ := h.cells i e sz cs hi
    rw [hS.loc, hS.cap]
    exact ⟨hf, vs, (hb _ hf).trans g1, g2, g3, g4, fun j v d hv hd => hr v d i _ hi (.inl ⟨e, sz, cs, j, rfl, hd⟩) (g5 j v d hv hd), fun off hs => g6 off (hm _ _ hs)⟩
  · obtain ⟨hf, es, clock, g1, g2, g3, g4⟩ := h.maps i kvs hi
    rw [hS.loc]
    refine ⟨hf, es, clock, (hb _ hf).trans g1, g2, fun off hs => g3 off (hm _ _ hs), fun j e kv he hkv => ?_⟩
    obtain ⟨dk, dv, rfl, g6, g7⟩ := g4 j e kv he hkv
    exact ⟨dk, dv, rfl, hr _ _ i _ hi (.inr ⟨kvs, j, dk, dv, rfl, hkv, .inl rfl⟩) g6, hr _ _ i _ hi (.inr ⟨kvs, j, dk, dv, rfl, hkv, .inr rfl⟩) g7⟩

theorem noyl_part {bs : List D} (h : noyls bs = true) {d : D} {i : Nat} {x : D} (hi : bs[i]? = some x) (hp : PartOf d x) : d.noyl = true := by
  have hx := noyls_get h hi
  rcases hp with ⟨e, sz, cs, j, rfl, hj⟩ | ⟨kvs, j, d1, d2, rfl, hj, hd⟩
  · exact noyls_get (by simpa [D.noyl] using hx) hj
  · have := noyls_get (by simpa [D.noyl] using hx) hj
    simp [D.noyl, noyls] at this
    rcases hd with rfl | rfl
    · exact this.1
    · exact this.2

/-- other loops are under way -/
def Sets.under (S : Sets) (h : Nat → Option Loop) : Sets := { S with hold := h }

theorem Sets.like_under (S : Sets) (h : Nat → Option Loop) : S.Like (S.under h) := ⟨fun _ _ h => h, rfl, fun _ => rfl, fun _ => rfl⟩

theorem dataSlots_get : ∀ {l : List SV} {k i s : Nat} {x : E}, (dataSlots k l)[i]? = some (s, x) → k ≤ s ∧ ∃ b, l[s - k]? = some (.e x b)
  | [], _, _, _, _, h => by simp [dataSlots] at h
  | sv :: r, k, i, s, x, h => by
    have rest : ∀ {i : Nat}, (dataSlots (k + 1) r)[i]? = some (s, x) → k ≤ s ∧ ∃ b, (sv :: r)[s - k]? = some (.e x b) := by
      intro i h
      obtain ⟨h1, b, h2⟩ := dataSlots_get h
      refine ⟨by omega, b, ?_⟩
      rw [show s - k = (s - (k + 1)) + 1 from by omega]
      simpa using h2
    cases sv with
    | e y b =>
      simp only [dataSlots] at h
      cases i with
      | zero => simp at h; obtain ⟨rfl, rfl⟩ := h; exact ⟨Nat.le_refl _, b, by simp⟩
      | succ i => exact rest (by simpa using h)
    | _ =>
      simp only [dataSlots] at h
      exact rest h

theorem dataSlots_mem : ∀ {l : List SV} {k s : Nat} {x : E} {b : Bool}, l[s]? = some (.e x b) → ∃ i : Nat, (dataSlots k l)[i]? = some (k + s, x)
  | [], _, _, _, _, h => by simp at h
  | sv :: r, k, 0, x, b, h => by
    simp at h
    subst h
    exact ⟨0, by simp [dataSlots]⟩
  | sv :: r, k, s + 1, x, b, h => by
    obtain ⟨i, hi⟩ := dataSlots_mem (k := k + 1) (l := r) (s := s) (by simpa using h)
    rw [show k + 1 + s = k + (s + 1) from by omega] at hi
    cases sv with
    | e y c => exact ⟨i + 1, by simpa [dataSlots] using hi⟩
    | _ => exact ⟨i, by simpa [dataSlots] using hi⟩

/-- where a function's run goes on from: worlds, and what is known from there on -/
structure Ext (w0 : World) (X : Ent) (w1 : World) (X1 : Ent) : Prop where
  sub : X.S ≤ X1.S
  os : w1.os = w0.os
  tape : w1.tape = w0.tape
  output : w1.output = w0.output
  size : w0.heap.size ≤ w1.heap.size
  old : ∀ b, b < w0.heap.size → ¬ X.may b → w1.heap[b]? = w0.heap[b]?
  may : ∀ b, X1.may b → X.may b ∨ w0.heap.size ≤ b
  foot : ∀ b, X1.foot b → X.foot b ∨ X.may b ∨ w0.heap.size ≤ b
  new : ∀ b o, X1.S b o → X.S b o ∨ w0.heap.size ≤ b ∨ X.may b
  dfs : ∃ cs : List Nat, X1.dfs = (cs.map fun D => ({ target := .collected D, args := #[] } : Deferred)) ++ X.dfs ∧ cs.Nodup ∧ ∀ D, D ∈ cs → w1.heap[D]? = some (.deferred (some [])) ∧ ¬ X1.may D ∧ ¬ X1.foot D ∧ w0.heap.size ≤ D

theorem Ext.refl (w0 : World) (X : Ent) : Ext w0 X w0 X := ⟨Sets.le_refl _, rfl, rfl, rfl, Nat.le_refl _, fun _ _ _ => rfl, fun _ h => .inl h, fun _ h => .inl h, fun _ _ h => .inl h, [], rfl, List.nodup_nil, by simp⟩

theorem Ext.trans {w0 w1 w2 : World} {X X1 X2 : Ent} (h : Ext w0 X w1 X1) (k : Ext w1 X1 w2 X2) : Ext w0 X w2 X2 := by
  have hm : ∀ b, b < w0.heap.size → ¬ X.may b → ¬ X1.may b := fun b hb hn hx => (h.may b hx).elim hn fun g => by omega
  refine ⟨Sets.le_trans h.sub k.sub, k.os.trans h.os, k.tape.trans h.tape, k.output.trans h.output, Nat.le_trans h.size k.size, fun b hb hn => (k.old b (Nat.lt_of_lt_of_le hb h.size) (hm b hb hn)).trans (h.old b hb hn),
    fun b hb => (k.may b hb).elim (h.may b) fun g => .inr (Nat.le_trans h.size g), fun b hb => ?_, fun b o hs => ?_, ?_⟩
  · rcases k.foot b hb with g | g | g
    · exact h.foot b g
    · exact .inr (h.may b g)
    · exact .inr (.inr (Nat.le_trans h.size g))
  · rcases k.new b o hs with g | g | g
    · exact h.new b o g
    · exact .inr (.inl (Nat.le_trans h.size g))
    · exact .inr ((h.may b g).elim .inr .inl)
  · obtain ⟨cs, h1, h2, h3⟩ := h.dfs
    obtain ⟨ds, k1, k2, k3⟩ := k.dfs
    refine ⟨ds ++ cs, by rw [k1, h1]; simp, ?_, fun D hD => ?_⟩
    · rw [List.nodup_append]
      refine ⟨k2, h2, fun a ha b hb e => ?_⟩
      subst e
      have g1 := (k3 a ha).2.2.2
      have g2 := (Array.getElem?_eq_some_iff.1 (h3 a hb).1).1
      omega
    · rcases List.mem_append.1 hD with hD | hD
      · obtain ⟨g1, g2, g3, g4⟩ := k3 D hD
        exact ⟨g1, g2, g3, Nat.le_trans h.size g4⟩
      · obtain ⟨g1, g2, g3, g4⟩ := h3 D hD
        have hlt := (Array.getElem?_eq_some_iff.1 g1).1
        exact ⟨(k.old D hlt g2).trans g1, fun hx => (k.may D hx).elim g2 fun g => by omega, fun hx => (k.foot D hx).elim g3 fun g => g.elim g2 fun g => by omega, g4⟩

/-- ... seen from where it began -/
theorem Ext.rep {w0 w1 w : World} {X X1 : Ent} {a : Act} {σ : SState} {env : List D} {ρ : Rho} (h : Ext w0 X w1 X1) (hr : Rep w1 X1 w a σ env ρ) (hh : ∀ l rec, X.S.hold l = some rec → w0.heap[l]? = some (.loop rec) ∧ ¬ X.may l ∧ ¬ X.foot l) : Rep w0 { X with dfs := X1.dfs } w a σ env ρ := by
  have hm : ∀ b, b < w0.heap.size → ¬ X.may b → ¬ X1.may b := fun b hb hn hx => (h.may b hx).elim hn fun g => by omega
  refine ⟨hr.size, hr.tmps, hr.objs, hr.inj, fun o x b hx hb => ?_, hr.cells, hr.os.trans h.os, hr.tape.trans h.tape, hr.output.trans h.output, Nat.le_trans h.size hr.grown, fun b hb hn => (hr.old b (Nat.lt_of_lt_of_le hb h.size) (hm b hb hn)).trans (h.old b hb hn), Sets.le_trans h.sub hr.sub, fun b o hs => ?_, hr.nod, hh⟩
  · obtain ⟨g, hlt⟩ := hr.own o x b hx hb
    refine ⟨?_, hlt⟩
    rcases g with g | g | g
    · rcases h.foot b g.2 with k | k | k
      · exact .inl ⟨g.1, k⟩
      · exact .inr (.inr k)
      · exact .inr (.inl k)
    · exact .inr (.inl (Nat.le_trans h.size g))
    · rcases h.may b g with k | k
      · exact .inr (.inr k)
      · exact .inr (.inl k)
  · rcases hr.new b o hs with g | g | g
    · exact h.new b o g
    · exact .inr (.inl (Nat.le_trans h.size g))
    · exact .inr ((h.may b g).elim .inr .inl)

theorem left_of_rep {w w' : World} {a : Act} {σ : SState} {env : List D} {ρ : Rho} {S : Sets} {foot may : Nat → Prop} {dfs : List Deferred} {bs : List D} (h : Rep w ⟨may, S, foot, dfs⟩ w' a σ env ρ) (hst : StOk w' ρ.S ρ.foot bs) (hob : ∃ cf x, σ.obj HID = some (.store cf x)) (hmay2 : ∀ b, may b → foot b) : Left w S foot may w' ρ.S ρ.foot bs := by
  obtain ⟨cf, x, hob⟩ := hob
  refine ⟨hst, h.sub, h.os, h.tape, h.output, h.grown, h.old, fun b hb => ?_, fun b o hs => ?_, h.cells⟩
  · obtain ⟨g1, g2⟩ := h.own HID _ b hob hb
    refine ⟨?_, g2⟩
    rcases g1 with g1 | g1 | g1
    · exact .inl g1.2
    · exact .inr g1
    · exact .inl (hmay2 b g1)
  · rcases h.new b o hs with g | g | g
    · exact .inl g
    · exact .inr (.inr g)
    · exact .inr (.inl g)

theorem evalAll_get {env : List D} : ∀ {l : List E} {ds : List D} {i : Nat} {x : E}, evalAll env l = some ds → l[i]? = some x → ∃ d, ds[i]? = some d ∧ x.eval env = some d
  | [], _, _, _, _, h => by simp at h
  | y :: r, ds, i, x, h, hi => by
    simp only [evalAll, Option.bind_eq_some_iff, Option.map_eq_some_iff] at h
    obtain ⟨d, h1, ds', h2, rfl⟩ := h
    cases i with
    | zero => simp at hi; subst hi; exact ⟨d, rfl, h1⟩
    | succ i =>
      obtain ⟨d', g1, g2⟩ := evalAll_get (i := i) h2 (by simpa using hi)
      exact ⟨d', by simpa using g1, g2⟩

theorem putArgs_rd {w : World} {ρ : Rho} {env : List D} : ∀ {ps : List Tmp} {vs : List Value} {u : Nat} {tm : Array Value} {svs : List SV}, tm.size = svs.length → ps.length = vs.length → (∀ t, SRd w ρ env (tm.getD t undef) (svs.getD t .junk)) → (∀ (i : Nat) (v : Value), vs[i]? = some v → ∃ d, env[u + i]? = some d ∧ RdD w ρ.S v d) →
    ((ps.zip vs).foldl (fun tmps (x : Tmp × Value) => tmps.setIfInBounds x.1 x.2) tm).size = (putArgs u ps svs).length ∧ ∀ t, SRd w ρ env (((ps.zip vs).foldl (fun tmps (x : Tmp × Value) => tmps.setIfInBounds x.1 x.2) tm).getD t undef) ((putArgs u ps svs).getD t .junk)
  | [], [], u, tm, svs, hs, _, h, _ => ⟨hs, h⟩
  | [], _ :: _, _, _, _, _, hl, _, _ => by simp at hl
  | _ :: _, [], _, _, _, _, hl, _, _ => by simp at hl
  | p :: ps, v :: vs, u, tm, svs, hs, hl, h, hv => by
    simp only [List.zip_cons_cons, List.foldl_cons, putArgs]
    refine putArgs_rd (by simp [hs]) (by simpa using hl) (fun t => ?_) fun i v' hi => ?_
    · by_cases hp : p < svs.length
      · simp only [Array.getD_eq_getD_getElem?, Array.getElem?_setIfInBounds, List.getD_eq_getElem?_getD, List.getElem?_set]
        by_cases e : p = t
        · subst e
          obtain ⟨d, hd, hr⟩ := hv 0 v rfl
          simp only [if_true, hs, hp]
          exact .e (by simpa [E.eval] using hd) hr (fun hh => by cases hh)
        · simp only [e, if_false]
          have := h t
          simpa only [Array.getD_eq_getD_getElem?, List.getD_eq_getElem?_getD] using this
      · have hge : svs.length ≤ p := Nat.le_of_not_lt hp
        rw [Array.setIfInBounds_eq_of_size_le (by rw [hs]; exact hge), List.set_eq_of_length_le hge]
        exact h t
    · obtain ⟨d, h1, h2⟩ := hv (i + 1) v' (by simpa using hi)
      exact ⟨d, by rw [show u + 1 + i = u + (i + 1) from by omega]; exact h1, h2⟩

theorem putArgs_length : ∀ (ps : List Tmp) (u : Nat) (svs : List SV), (putArgs u ps svs).length = svs.length
  | [], _, _ => rfl
  | p :: ps, u, svs => by simp [putArgs, putArgs_length ps]

/-! ## a function leaves that has had loops over functions -/

structure Marked (w w' : World) (cs : List Nat) : Prop where
  other : ∀ b, b ∉ cs → w'.heap[b]? = w.heap[b]?
  size : w'.heap.size = w.heap.size
  os : w'.os = w.os
  tape : w'.tape = w.tape
  output : w'.output = w.output
  cell : ∀ b o, w'.cell? ⟨b, o, none⟩ = w.cell? ⟨b, o, none⟩

theorem cell_unmark {w : World} {l : Nat} {x : Option (List Deferred)} (h : w.heap[l]? = some (.deferred x)) (y : Option (List Deferred)) (b o : Nat) : (w.putObj l (.deferred y)).cell? ⟨b, o, none⟩ = w.cell? ⟨b, o, none⟩ := by
  by_cases e : b = l
  · subst e
    have h1 : w.cell? ⟨b, o, none⟩ = none := by simp [World.cell?, h]
    have h2 := World.putObj_heap_same (o := .deferred y) (Array.getElem?_eq_some_iff.1 h).1
    rw [h1]
    simp [World.cell?, h2]
  · exact World.cell?_of_block (a := ⟨b, o, none⟩) (World.putObj_heap_other e)

theorem leaves_marks {F : Fence} {n : Nat} {fn : Func} {tmps : Array Value} {R : Ending → World → Prop} {u : FrameMode} (hu : u ≠ .run) : ∀ (cs : List Nat) (w : World), cs.Nodup → (∀ D, D ∈ cs → w.heap[D]? = some (.deferred (some []))) →
    (∀ w', Marked w w' cs → LeavesIn F n P fn tmps R [] u w') → LeavesInM F n P fn tmps R (cs.map fun D => ({ target := .collected D, args := #[] } : Deferred)) u w
  | [], w, _, _, h => h w ⟨fun _ _ => rfl, rfl, rfl, rfl, rfl, fun _ _ => rfl⟩
  | D :: cs, w, hn, hD, h => by
    rw [List.nodup_cons] at hn
    have hd := hD D (by simp)
    refine ⟨hu, .inl ⟨D, _, rfl, run_takeDeferred hd, leaves_marks hu cs _ hn.2 (fun D' hD' => ?_) fun w' hm => h w' ?_⟩⟩
    · rw [World.putObj_heap_other (fun e => by subst e; exact hn.1 hD')]
      exact hD D' (by simp [hD'])
    · refine ⟨fun b hb => ?_, hm.size.trans (by simp), hm.os, hm.tape, hm.output, fun b o => (hm.cell b o).trans (cell_unmark hd _ b o)⟩
      simp only [List.mem_cons, not_or] at hb
      rw [hm.other b hb.2, World.putObj_heap_other hb.1]

theorem Rep.marked {w0 w1 w w' : World} {X0 X1 : Ent} {a : Act} {σ : SState} {env : List D} {ρ : Rho} {cs : List Nat} (h : Rep w1 X1 w a σ env ρ) (h0 : Rep w0 X0 w a σ env ρ) (hc : ∀ D, D ∈ cs → D < w1.heap.size ∧ ¬ X1.may D ∧ ¬ X1.foot D ∧ w0.heap.size ≤ D) (hm : Marked w w' cs) : Rep w0 X0 w' a σ env ρ :=
  h0.move (fun b o _ => hm.cell b o) (Rho.More.refl ρ _) (fun o x b hx hb => hm.other b fun hD => by
    obtain ⟨h1, h2, h3, _⟩ := hc b hD
    rcases (h.own o x b hx hb).1 with g | g | g
    · exact h3 g.2
    · omega
    · exact h2 g) (fun _ _ _ _ _ _ hs => hs) (fun b o hs => by rw [hm.size]; exact h0.cells b o hs) hm.os hm.tape hm.output (by rw [hm.size]; exact Nat.le_refl _) (fun b hb _ => hm.other b fun hD => by have := (hc b hD).2.2.2; omega) fun b o hs => .inl hs

/-- The record of a loop that is under way, and that no data name, is another, there and when it began. -/
theorem Rep.putBoth {w0 w : World} {X : Ent} {a : Act} {σ : SState} {env : List D} {ρ : Rho} (h : Rep w0 X w a σ env ρ) {m : Nat} {r r' : Loop} (hm : w0.heap[m]? = some (.loop r)) (hn1 : ¬ X.may m) (hn2 : ¬ X.foot m) (hh : X.S.hold m = none) :
    w.heap[m]? = some (.loop r) ∧ Rep (w0.putObj m (.loop r')) X (w.putObj m (.loop r')) a σ env ρ := by
  have hlt : m < w0.heap.size := (Array.getElem?_eq_some_iff.1 hm).1
  have hw : w.heap[m]? = some (.loop r) := (h.old m hlt hn1).trans hm
  have hlt' : m < w.heap.size := (Array.getElem?_eq_some_iff.1 hw).1
  have hb : ∀ o x b, σ.obj o = some x → objBlk ρ o x b → b ≠ m := fun o x b hx hb e => by
    subst e
    rcases (h.own o x b hx hb).1 with g | g | g
    · exact hn2 g.2
    · omega
    · exact hn1 g
  have h1 : Rep w0 X w a σ env ρ := h
  refine ⟨hw, h.size, fun t => (h.tmps t).keep (Keeps.putObj hw r') (Rho.More.refl ρ (fun _ => False)) fun _ hf => hf.elim, fun o x hx => (h.objs o x hx).keep (Keeps.putObj hw r') (Rho.More.refl ρ (fun _ => False)) id (fun _ hf => hf.elim) (fun b hb' => World.putObj_heap_other (hb o x b hx hb')) (fun _ _ _ hs => hs), h.inj, fun o x b hx hb' => ?_, fun b o hs => ?_, h.os, h.tape, h.output, ?_, fun b hb1 hb2 => ?_, h.sub, fun b o hs => ?_, h.nod, fun l rec hl => ?_⟩
  · simp only [World.putObj_size]
    exact h.own o x b hx hb'
  · simp only [World.putObj_size]
    exact h.cells b o hs
  · simp only [World.putObj_size]
    exact h.grown
  · simp only [World.putObj_size] at hb1
    by_cases e : b = m
    · subst e
      rw [World.putObj_heap_same hlt, World.putObj_heap_same hlt']
    · rw [World.putObj_heap_other e, World.putObj_heap_other e]
      exact h.old b hb1 hb2
  · simp only [World.putObj_size]
    exact h.new b o hs
  · obtain ⟨g1, g2, g3⟩ := h.hold l rec hl
    have e : l ≠ m := fun e => by
      subst e
      rw [hh] at hl
      cases hl
    exact ⟨by rw [World.putObj_heap_other e]; exact g1, g2, g3⟩

end
end Go.Am
