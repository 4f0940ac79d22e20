/-
  How 'Rep' goes on when the world changes: a draw, new blocks, a store into an object of the call's own.
-/
import Derived.Test.YtnenlnmfoocpdaaAmRep
import Derived.Laws.CopyRow
set_option linter.unusedSimpArgs false
set_option linter.unusedVariables false
namespace Go.Am

theorem heapOld (w : World) (o : Obj) (b : Nat) (hb : b < w.heap.size) : (w.alloc o).heap[b]? = w.heap[b]? := heap_alloc_old w o b hb

theorem ownsRow_of_block {w w' : World} {base : Nat} {e : TypeId} {size : Nat} {v : Value} {n : Nat} {xs : List Value} (h : w.ownsRow base e size v n xs) (hb : ∀ g, v.ownBlock = some g → w'.heap[g]? = w.heap[g]?) : w'.ownsRow base e size v n xs := by
  refine ⟨h.1, ?_⟩
  rcases h.2 with h2 | ⟨g, cap, cur, hv, hg, hh, r⟩
  · exact .inl h2
  · refine .inr ⟨g, cap, cur, hv, hg, ?_, r⟩
    rw [hb g (by rw [hv]; rfl)]
    exact hh

/-- An object still is as it was: its block has not turned, S may have grown outside its block. -/
theorem ObjOk.keepL {w w' : World} {ρ ρ' : Rho} {ex : Nat → Prop} {env : List D} {o : Nat} {x : SObj} (h : ObjOk w ρ env o x) (hk : Keeps ρ.S w w') (hm : ρ.Le ρ' ex) (hst : o = HID → ρ'.S.n = ρ.S.n ∧ ρ'.foot = ρ.foot) (ho : ¬ ex o) (ha : ∀ o', ex o' → x.avoids o' = true)
    (hb : ∀ b, objBlk ρ o x b → w'.heap[b]? = w.heap[b]?) (hS : ∀ b off, objBlk ρ o x b → ρ'.S b off → ρ.S b off) : ObjOk w' ρ' env o x := by
  have h1 := hm.blk o ho
  have h2 := hm.val o ho
  cases x with
  | box cs =>
    obtain ⟨vs, ty, hh, hl, hone, hr, hn⟩ := h
    refine ⟨vs, ty, by rw [h1, hb _ rfl]; exact hh, hl, hone, fun i v c hv hc => (hr i v c hv hc).keepL hk hm fun o' ho' => SV.avoidsAll_get (by simpa [SObj.avoids] using ha o' ho') hc, fun off hs => ?_⟩
    rw [h1] at hs
    exact hn off (hS _ off rfl hs)
  | row x size =>
    obtain ⟨vs, ty, es, hh, hx, hz, hl, hr, hv, hm1, hn⟩ := h
    refine ⟨vs, ty, es, by rw [h1, hb _ rfl]; exact hh, hx, hz, hl, fun i e j d he hd => ?_, by rw [h1, h2]; exact hv, hm1, fun off hs => ?_⟩
    · obtain ⟨hone, v, hv, hrd⟩ := hr i e j d he hd
      exact ⟨hone, v, hv, hrd.keep hk hm.S⟩
    · rw [h1] at hs
      exact hn off (hS _ off rfl hs)
  | tok e size =>
    obtain ⟨n, xs, hown, hn⟩ := h
    refine ⟨n, xs, ?_, ?_⟩
    · rw [h2]
      exact ownsRow_of_block hown fun g hg => hb g hg
    · intro b hbv off hoff hs
      rw [h2] at hbv
      exact hn b hbv off hoff (hS b off hbv hs)
  | store ro x =>
    obtain ⟨bs, hx, hs0, he⟩ := h
    obtain ⟨hsn, hsf⟩ := hst he
    have hst := hs0
    refine ⟨bs, hx, ⟨hsn.trans hst.n, fun i e sz cs hi => ?_, fun b off hf hs => by rw [hsf] at hf; exact hst.nos b off hf (hS b off hf hs), fun i kvs hi => ?_, fun i j x y hi hj hx hy hl => ?_⟩, he⟩
    · obtain ⟨hf, vs, hh, hsz, hl, hone, hr, hn⟩ := hst.cells i e sz cs hi
      have hlt : i < ρ.S.n := by rw [hst.n]; exact (List.getElem?_eq_some_iff.1 hi).1
      rw [hm.S.loc i hlt, hm.S.cap i hlt, hsf]
      refine ⟨hf, vs, by rw [hb _ hf]; exact hh, hsz, hl, hone, fun j v d hv hd => (hr j v d hv hd).keep hk hm.S, fun off hs => hn off (hS _ off hf hs)⟩
    · obtain ⟨hf, es, clock, hh, hsz, hn, hr⟩ := hst.maps i kvs hi
      have hlt : i < ρ.S.n := by rw [hst.n]; exact (List.getElem?_eq_some_iff.1 hi).1
      rw [hm.S.loc i hlt, hsf]
      refine ⟨hf, es, clock, by rw [hb _ hf]; exact hh, hsz, fun off hs => hn off (hS _ off hf hs), fun j e kv he hkv => ?_⟩
      obtain ⟨dk, dv, h1, h2, h3⟩ := hr j e kv he hkv
      exact ⟨dk, dv, h1, h2.keep hk hm.S, h3.keep hk hm.S⟩
    · have h1 : i < ρ.S.n := by rw [hst.n]; exact (List.getElem?_eq_some_iff.1 hi).1
      have h2 : j < ρ.S.n := by rw [hst.n]; exact (List.getElem?_eq_some_iff.1 hj).1
      rw [hm.S.loc i h1, hm.S.loc j h2] at hl
      exact hst.inj i j x y hi hj hx hy hl

theorem ObjOk.keep {w w' : World} {ρ ρ' : Rho} {ex : Nat → Prop} {env : List D} {o : Nat} {x : SObj} (h : ObjOk w ρ env o x) (hk : Keeps ρ.S w w') (hm : ρ.More ρ' ex) (ho : ¬ ex o) (ha : ∀ o', ex o' → x.avoids o' = true)
    (hb : ∀ b, objBlk ρ o x b → w'.heap[b]? = w.heap[b]?) (hS : ∀ b off, objBlk ρ o x b → ρ'.S b off → ρ.S b off) : ObjOk w' ρ' env o x :=
  h.keepL hk hm.toLe (fun e => ⟨hm.n (e ▸ ho), hm.foot (e ▸ ho)⟩) ho ha hb hS

theorem objBlk_le {ρ ρ' : Rho} {ex : Nat → Prop} (hm : ρ.Le ρ' ex) {o : Nat} (hst : o = HID → ρ'.foot = ρ.foot) (ho : ¬ ex o) {w : World} {env : List D} {x : SObj} (h : ObjOk w ρ env o x) : objBlk ρ' o x = objBlk ρ o x := by
  cases x with
  | store ro x =>
    obtain ⟨_, _, _, he⟩ := h
    funext b
    simp only [objBlk, hst he]
  | _ => funext b; simp [objBlk, hm.blk o ho, hm.val o ho]

theorem objBlk_more {ρ ρ' : Rho} {ex : Nat → Prop} (hm : ρ.More ρ' ex) {o : Nat} (ho : ¬ ex o) {w : World} {env : List D} {x : SObj} (h : ObjOk w ρ env o x) : objBlk ρ' o x = objBlk ρ o x :=
  objBlk_le hm.toLe (fun e => hm.foot (e ▸ ho)) ho h

/-- The world has turned, but neither the objects' blocks nor the cells of S, nor what was there when the call began. -/
theorem Rep.move {w0 : World} {X : Ent} {w w' : World} {a : Act} {σ : SState} {env : List D} {ρ ρ' : Rho} (h : Rep w0 X w a σ env ρ) (hk : Keeps ρ.S w w') (hm : ρ.More ρ' fun _ => False)
    (hb : ∀ o x b, σ.obj o = some x → objBlk ρ o x b → w'.heap[b]? = w.heap[b]?) (hS : ∀ o x b off, σ.obj o = some x → objBlk ρ o x b → ρ'.S b off → ρ.S b off)
    (hc : ∀ b o, ρ'.S b o → b < w'.heap.size) (hos : w'.os = w.os) (ht : w'.tape = w.tape) (hout : w'.output = w.output) (hsz : w.heap.size ≤ w'.heap.size)
    (hold : ∀ b, b < w0.heap.size → ¬ X.may b → w'.heap[b]? = w.heap[b]?) (hnew : ∀ b o, ρ'.S b o → ρ.S b o ∨ w0.heap.size ≤ b) : Rep w0 X w' a σ env ρ' := by
  refine ⟨h.size, fun t => (h.tmps t).keep hk hm fun _ hf => hf.elim, fun o x hx => (h.objs o x hx).keep hk hm id (fun _ hf => hf.elim) (fun b => hb o x b hx) (fun b off => hS o x b off hx), ?_, ?_, hc,
    hos.trans h.os, ht.trans h.tape, hout.trans h.output, Nat.le_trans h.grown hsz, fun b h1 h2 => (hold b h1 h2).trans (h.old b h1 h2), Sets.le_trans h.sub hm.S, fun b o hs => (hnew b o hs).elim (h.new b o) fun e => .inr (.inl e), h.nod, h.hold⟩
  · intro o o' x x' b h1 h2 h3 h4
    rw [objBlk_more hm (fun hf => hf) (h.objs _ _ h1)] at h3
    rw [objBlk_more hm (fun hf => hf) (h.objs _ _ h2)] at h4
    exact h.inj o o' x x' b h1 h2 h3 h4
  · intro o x b h1 h2
    rw [objBlk_more hm (fun hf => hf) (h.objs _ _ h1)] at h2
    obtain ⟨h3, h4⟩ := h.own o x b h1 h2
    exact ⟨h3, Nat.lt_of_lt_of_le h4 hsz⟩

theorem Rep.drew {w0 : World} {X : Ent} {w : World} {a : Act} {σ : SState} {env : List D} {ρ : Rho} (h : Rep w0 X w a σ env ρ) : Rep w0 X w.drew a σ env ρ :=
  h.move (Keeps.refl _ _) (Rho.More.refl _ _) (fun _ _ _ _ _ => rfl) (fun _ _ _ _ _ _ hs => hs) h.cells rfl rfl rfl (Nat.le_refl _) (fun _ _ _ => rfl) fun _ _ hs => .inl hs


/-- A new block of cells that nobody will write: S grows by it. -/
def Sets.or (S : Sets) (p : Nat → Nat → Prop) : Sets := { S with mem := fun b o => S b o ∨ p b o }

theorem Sets.le_or (S : Sets) (p : Nat → Nat → Prop) : S ≤ S.or p := ⟨fun _ _ h => .inl h, Nat.le_refl _, fun _ _ => rfl, fun _ _ => rfl, rfl⟩

def Rho.withBlock (ρ : Rho) (b0 : Nat) : Rho := { ρ with S := ρ.S.or fun b _ => b = b0 }

theorem Rho.withBlock_more (ρ : Rho) (b0 : Nat) (ex : Nat → Prop) : ρ.More (ρ.withBlock b0) ex := ⟨⟨fun _ _ => rfl, fun _ _ => rfl, ρ.S.le_or _⟩, fun _ => rfl, fun _ => rfl⟩

theorem Keeps.alloc {S : Sets} {w : World} (hS : ∀ b o, S b o → b < w.heap.size) (o : Obj) : Keeps S w (w.alloc o) := fun b i hs => World.cell?_alloc_lt w o ⟨b, i, none⟩ (hS b i hs)

theorem Rep.allocS {w0 : World} {X : Ent} {w : World} {a : Act} {σ : SState} {env : List D} {ρ : Rho} (h : Rep w0 X w a σ env ρ) (o : Obj) : Rep w0 X (w.alloc o) a σ env (ρ.withBlock w.heap.size) := by
  refine h.move (Keeps.alloc h.cells o) (ρ.withBlock_more _ _) ?_ ?_ ?_ rfl rfl rfl (by simp) ?_ fun b i hs => hs.elim .inl fun e => .inr (by have := h.grown; omega)
  · intro o' x b h1 h2
    exact heap_alloc_old w o b (h.own o' x b h1 h2).2
  · intro o' x b off h1 h2 h3
    rcases h3 with h3 | h3
    · exact h3
    · have := (h.own o' x b h1 h2).2; omega
  · intro b i hs
    rcases hs with hs | hs
    · have := h.cells b i hs; simp; omega
    · simp; omega
  · intro b h1 _
    have := h.grown
    exact heap_alloc_old w o b (by omega)

/-- A new object: a variable of the call's own. -/
def Rho.withObj (ρ : Rho) (o b : Nat) (v : Value) : Rho := { ρ with blk := fun x => if x = o then b else ρ.blk x, val := fun x => if x = o then v else ρ.val x }

theorem Rho.withObj_more (ρ : Rho) (o b : Nat) (v : Value) : ρ.More (ρ.withObj o b v) (· = o) :=
  ⟨⟨fun x hx => by simp [Rho.withObj, hx], fun x hx => by simp [Rho.withObj, hx], Sets.le_refl _⟩, fun _ => rfl, fun _ => rfl⟩

/-- 'σ' doesn't name the object o. -/
def SState.avoids (σ : SState) (o : Nat) : Prop := (∀ t, (σ.tmp t).avoids o = true) ∧ ∀ o' x, σ.obj o' = some x → x.avoids o = true

theorem Rep.withObj {w0 : World} {X : Ent} {w w' : World} {a : Act} {σ : SState} {env : List D} {ρ : Rho} (h : Rep w0 X w a σ env ρ) {o : Nat} (ho : o < σ.mem.length) (hfree : σ.obj o = none) (hav : σ.avoids o) {v : Value} {x : SObj}
    (hk : Keeps ρ.S w w') (hb : ∀ b, b < w.heap.size → w'.heap[b]? = w.heap[b]?) (hos : w'.os = w.os) (ht : w'.tape = w.tape) (hout : w'.output = w.output) (hsz : w.heap.size < w'.heap.size)
    (hok : ObjOk w' (ρ.withObj o w.heap.size v) env o x) (hblk : ∀ b, objBlk (ρ.withObj o w.heap.size v) o x b → b = w.heap.size) : Rep w0 X w' a (σ.setObj o (some x)) env (ρ.withObj o w.heap.size v) := by
  have hm := ρ.withObj_more o w.heap.size v
  have hne : ∀ o' y, σ.obj o' = some y → o' ≠ o := fun o' y hy e => by rw [e, hfree] at hy; cases hy
  refine ⟨by rw [SState.tmps_setObj]; exact h.size, fun t => ?_, ?_, ?_, ?_, fun b i hs => Nat.lt_of_lt_of_le (h.cells b i hs) (Nat.le_of_lt hsz), hos.trans h.os, ht.trans h.tape, hout.trans h.output, Nat.le_trans h.grown (Nat.le_of_lt hsz), ?_, h.sub, h.new, h.nod, h.hold⟩
  · rw [SState.tmp_setObj]; exact (h.tmps t).keep hk hm fun o' e => by subst e; exact hav.1 t
  · intro o' y hy
    rw [SState.obj_setObj ho] at hy
    by_cases e : o' = o
    · subst e; simp at hy; subst hy; exact hok
    · simp [e] at hy
      refine (h.objs o' y hy).keep hk hm e (fun o'' e' => by subst e'; exact hav.2 o' y hy) (fun b hb' => hb b (h.own o' y b hy hb').2) fun _ _ _ hs => hs
  · intro o1 o2 y1 y2 b h1 h2 h3 h4
    rw [SState.obj_setObj ho] at h1 h2
    by_cases e1 : o1 = o <;> by_cases e2 : o2 = o
    · rw [e1, e2]
    · subst e1; simp at h1; subst h1
      simp [e2] at h2
      rw [objBlk_more hm e2 (h.objs _ _ h2)] at h4
      have := hblk b h3
      have := (h.own o2 y2 b h2 h4).2
      omega
    · subst e2; simp at h2; subst h2
      simp [e1] at h1
      rw [objBlk_more hm e1 (h.objs _ _ h1)] at h3
      have := hblk b h4
      have := (h.own o1 y1 b h1 h3).2
      omega
    · simp [e1] at h1; simp [e2] at h2
      rw [objBlk_more hm e1 (h.objs _ _ h1)] at h3
      rw [objBlk_more hm e2 (h.objs _ _ h2)] at h4
      exact h.inj o1 o2 y1 y2 b h1 h2 h3 h4
  · intro o' y b hy hb'
    rw [SState.obj_setObj ho] at hy
    by_cases e : o' = o
    · subst e; simp at hy; subst hy
      have := hblk b hb'
      have := h.grown
      exact ⟨.inr (.inl (by omega)), by omega⟩
    · simp [e] at hy
      rw [objBlk_more hm e (h.objs _ _ hy)] at hb'
      obtain ⟨h1, h2⟩ := h.own o' y b hy hb'
      exact ⟨h1, by omega⟩
  · intro b h1 h2
    exact (hb b (by have := h.grown; omega)).trans (h.old b h1 h2)

/-- A store into the block of an object of the call's own: the object's content is another, all else is as it was. -/
theorem Rep.setBlock {w0 : World} {X : Ent} {w w' : World} {a : Act} {σ : SState} {env : List D} {ρ : Rho} (h : Rep w0 X w a σ env ρ) {o : Nat} (ho : o = HID ∨ o < σ.mem.length) {x x' : SObj} (hx : σ.obj o = some x) {b0 : Nat} (hb0 : objBlk ρ o x b0) (hro : x.ro = false) (hb1 : ∀ b, objBlk ρ o x' b → objBlk ρ o x b)
    (hfree : ∀ off, ¬ ρ.S b0 off) (hb : ∀ b, b ≠ b0 → w'.heap[b]? = w.heap[b]?) (hos : w'.os = w.os) (ht : w'.tape = w.tape) (hout : w'.output = w.output) (hsz : w'.heap.size = w.heap.size)
    (hok : Keeps ρ.S w w' → ObjOk w' ρ env o x') : Rep w0 X w' a (σ.setObj o (some x')) env ρ := by
  have hk : Keeps ρ.S w w' := fun b i hs => World.cell?_of_block (a := ⟨b, i, none⟩) (hb b fun e => by subst e; exact hfree i hs)
  have hm := Rho.More.refl ρ fun _ => False
  have hown : ∀ b, objBlk ρ o x b → (w0.heap.size ≤ b ∨ X.may b) ∧ b < w.heap.size := fun b hb => by
    have := h.own o x b hx hb
    rw [hro] at this
    exact ⟨this.1.resolve_left (by simp), this.2⟩
  refine ⟨by rw [SState.tmps_setObj]; exact h.size, fun t => by rw [SState.tmp_setObj]; exact (h.tmps t).keep hk hm fun _ hf => hf.elim, ?_, ?_, ?_, fun b i hs => by rw [hsz]; exact h.cells b i hs, hos.trans h.os, ht.trans h.tape, hout.trans h.output, by rw [hsz]; exact h.grown, ?_, h.sub, h.new, h.nod, h.hold⟩
  · intro o' y hy
    rw [SState.obj_setObj' ho] at hy
    by_cases e : o' = o
    · subst e; simp at hy; subst hy; exact hok hk
    · simp [e] at hy
      refine (h.objs o' y hy).keep hk hm id (fun _ hf => hf.elim) (fun b hb' => hb b fun e' => e ?_) fun _ _ _ hs => hs
      subst e'
      exact h.inj o' o y x b hy hx hb' hb0
  · intro o1 o2 y1 y2 b h1 h2 h3 h4
    rw [SState.obj_setObj' ho] at h1 h2
    by_cases e1 : o1 = o <;> by_cases e2 : o2 = o
    · rw [e1, e2]
    · subst e1; simp at h1; subst h1
      simp [e2] at h2
      exact h.inj o1 o2 x y2 b hx h2 (hb1 b h3) h4
    · subst e2; simp at h2; subst h2
      simp [e1] at h1
      exact h.inj o1 o2 y1 x b h1 hx h3 (hb1 b h4)
    · simp [e1] at h1; simp [e2] at h2
      exact h.inj o1 o2 y1 y2 b h1 h2 h3 h4
  · intro o' y b hy hb'
    rw [SState.obj_setObj' ho] at hy
    rw [hsz]
    by_cases e : o' = o
    · subst e; simp at hy; subst hy
      exact ⟨.inr (hown b (hb1 b hb')).1, (hown b (hb1 b hb')).2⟩
    · simp [e] at hy
      exact h.own o' y b hy hb'
  · intro b h1 h2
    have hne : b ≠ b0 := fun e => by
      subst e
      rcases (hown b hb0).1 with h3 | h3
      · omega
      · exact h2 h3
    exact (hb b hne).trans (h.old b h1 h2)

/-- The store is another, all else is as it was. -/
theorem Rep.setStore {w0 : World} {X : Ent} {w w' : World} {a : Act} {σ : SState} {env : List D} {ρ : Rho} (h : Rep w0 X w a σ env ρ) {cf : StCfg} {x x' : E} (hx : σ.obj HID = some (.store cf x)) (hro : cf.ro = false) {S' : Sets} {foot' : Nat → Prop} {bs' : List D} (he : x'.eval env = some (.st bs')) (hst : StOk w' S' foot' bs')
    (hk : Keeps ρ.S w w') (hS : ρ.S ≤ S') (hos : w'.os = w.os) (ht : w'.tape = w.tape) (hout : w'.output = w.output) (hsz : w.heap.size ≤ w'.heap.size) (hb : ∀ b, b < w.heap.size → ¬ ρ.foot b → w'.heap[b]? = w.heap[b]?)
    (hf : ∀ b, foot' b → (ρ.foot b ∨ w.heap.size ≤ b) ∧ b < w'.heap.size) (hS2 : ∀ b o, S' b o → ρ.S b o ∨ ρ.foot b ∨ w.heap.size ≤ b) (hS3 : ∀ b o, S' b o → b < w'.heap.size) :
    Rep w0 X w' a (σ.setObj HID (some (.store cf x'))) env { ρ with S := S', foot := foot' } := by
  have hle : ρ.Le { ρ with S := S', foot := foot' } (fun _ => False) := ⟨fun _ _ => rfl, fun _ _ => rfl, hS⟩
  have hfown : ∀ b, ρ.foot b → (w0.heap.size ≤ b ∨ X.may b) ∧ b < w.heap.size := fun b hb => by
    have := h.own HID _ b hx hb
    simp only [SObj.ro, hro] at this
    exact ⟨this.1.resolve_left (by simp), this.2⟩
  have hnf : ∀ o y b, o ≠ HID → σ.obj o = some y → objBlk ρ o y b → ¬ ρ.foot b := fun o y b hne hy hb hf => hne (h.inj o HID y _ b hy hx hb hf)
  have hblk : ∀ o y, o ≠ HID → σ.obj o = some y → objBlk { ρ with S := S', foot := foot' } o y = objBlk ρ o y := fun o y hne hy => objBlk_le hle (fun e => absurd e hne) (fun hf => hf) (h.objs o y hy)
  refine ⟨by rw [SState.tmps_setObj]; exact h.size, fun t => by rw [SState.tmp_setObj]; exact (h.tmps t).keepL hk hle fun _ hf => hf.elim, fun o y hy => ?_, fun o1 o2 y1 y2 b h1 h2 h3 h4 => ?_, fun o y b hy hb' => ?_, hS3, hos.trans h.os, ht.trans h.tape, hout.trans h.output, Nat.le_trans h.grown hsz, fun b h1 h2 => ?_, Sets.le_trans h.sub hS, fun b o hs => ?_, h.nod, h.hold⟩
  · rw [SState.obj_setObj' (.inl rfl)] at hy
    by_cases e : o = HID
    · subst e; simp at hy; subst hy; exact ⟨bs', he, hst, rfl⟩
    · simp [e] at hy
      refine (h.objs o y hy).keepL hk hle (fun e' => absurd e' e) (fun hf => hf) (fun _ hf => hf.elim) (fun b hb' => hb b (h.own o y b hy hb').2 (hnf o y b e hy hb')) fun b off hb' hs => ?_
      rcases hS2 b off hs with h1 | h1 | h1
      · exact h1
      · exact absurd h1 (hnf o y b e hy hb')
      · have := (h.own o y b hy hb').2; omega
  · rw [SState.obj_setObj' (.inl rfl)] at h1 h2
    have cross : ∀ {o : Nat} {y : SObj} {b : Nat}, o ≠ HID → σ.obj o = some y → objBlk { ρ with S := S', foot := foot' } o y b → foot' b → False := by
      intro o y b hne hy hb' hf'
      rw [hblk o y hne hy] at hb'
      rcases (hf b hf').1 with h5 | h5
      · exact hnf o y b hne hy hb' h5
      · have := (h.own o y b hy hb').2; omega
    by_cases e1 : o1 = HID <;> by_cases e2 : o2 = HID
    · rw [e1, e2]
    · subst e1; simp at h1; subst h1
      simp [e2] at h2
      exact (cross e2 h2 h4 h3).elim
    · subst e2; simp at h2; subst h2
      simp [e1] at h1
      exact (cross e1 h1 h3 h4).elim
    · simp [e1] at h1; simp [e2] at h2
      rw [hblk o1 y1 e1 h1] at h3
      rw [hblk o2 y2 e2 h2] at h4
      exact h.inj o1 o2 y1 y2 b h1 h2 h3 h4
  · rw [SState.obj_setObj' (.inl rfl)] at hy
    by_cases e : o = HID
    · subst e; simp at hy; subst hy
      obtain ⟨h1, h2⟩ := hf b hb'
      refine ⟨.inr ?_, h2⟩
      rcases h1 with h1 | h1
      · exact (hfown b h1).1
      · exact .inl (Nat.le_trans h.grown h1)
    · simp [e] at hy
      rw [hblk o y e hy] at hb'
      obtain ⟨h1, h2⟩ := h.own o y b hy hb'
      exact ⟨h1, by omega⟩
  · refine (hb b (by have := h.grown; omega) fun hf => ?_).trans (h.old b h1 h2)
    rcases (hfown b hf).1 with h3 | h3
    · omega
    · exact h2 h3
  · rcases hS2 b o hs with h1 | h1 | h1
    · exact h.new b o h1
    · rcases (hfown b h1).1 with h3 | h3
      · exact .inr (.inl h3)
      · exact .inr (.inr h3)
    · exact .inr (.inl (Nat.le_trans h.grown h1))

end Go.Am
