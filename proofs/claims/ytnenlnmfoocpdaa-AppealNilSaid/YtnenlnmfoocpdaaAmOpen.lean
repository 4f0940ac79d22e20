/-
  How the arguments of a law read: as data, with the bounds of their types; and the contract of a law, out of a function's contract over data.
-/
import Derived.Test.YtnenlnmfoocpdaaAmFn
import Derived.ProofKit
import Derived.OpenShut
import Derived.Carry
import Derived.Handed
set_option linter.unusedSimpArgs false
set_option linter.unusedVariables false
namespace Go.Am

/-- the types that arguments have -/
inductive Sh where
  | int (k : IntKind)
  | bool
  | str
  | sl (e : Sh)
  | st (fs : List Sh)
  deriving Inhabited

mutual
def Sh.size : Sh → Nat
  | .st fs => Sh.sizes fs
  | _ => 1
def Sh.sizes : List Sh → Nat
  | [] => 0
  | s :: r => s.size + Sh.sizes r
end

def Sh.isSt : Sh → Bool
  | .st _ => true
  | _ => false

def shFields (P : Program) (sh : TypeId → Option Sh) : List Field → Nat → Option (List Sh)
  | [], _ => some []
  | f :: r, off => if f.offset = off then (sh f.type).bind fun s => if P.cellsOf f.type = s.size then (shFields P sh r (off + s.size)).map (s :: ·) else none else none

/-- the form of a type -/
def shOf (P : Program) : Nat → TypeId → Option Sh
  | 0, _ => none
  | n + 1, t => match P.underlying t with
    | some (.int k) => some (.int k)
    | some .bool => some .bool
    | some .string => some .str
    | some (.slice e) => (shOf P n e).bind fun s => if P.cellsOf e = s.size ∧ 0 < s.size then some (.sl s) else none
    | some (.struct fs) => (shFields P (shOf P n) fs.toList 0).bind fun l => if P.cellsOf t = Sh.sizes l then some (.st l) else none
    | _ => none

mutual
/-- the cells are data of that form -/
def OfSh : Sh → List D → Prop
  | .int k, ds => ∃ n, ds = [.v (.int k n)] ∧ k.min ≤ n ∧ n ≤ k.max
  | .bool, ds => ∃ b, ds = [.v (.bool b)]
  | .str, ds => ∃ s, ds = [.v (.string s)] ∧ s.size ≤ maxLen
  | .sl e, ds => ∃ es, ds = [.lst es] ∧ es.length ≤ maxLen ∧ ∀ x, x ∈ es → (e.isSt = true → ∃ cs, x = .agg cs ∧ OfSh e cs) ∧ (e.isSt = false → OfSh e [x])
  | .st fs, ds => OfAll fs ds
def OfAll : List Sh → List D → Prop
  | [], ds => ds = []
  | s :: r, ds => ∃ a b, ds = a ++ b ∧ OfSh s a ∧ OfAll r b
end

/-- all that there is -/
def Sall (w : World) : Sets := { mem := fun b _ => b < w.heap.size, loc := fun _ => 0, n := 0, cap := fun _ => 0 }

mutual
theorem OfSh.length : ∀ {s : Sh} {ds : List D}, OfSh s ds → ds.length = s.size
  | .int _, _, ⟨_, h, _⟩ => by rw [h]; rfl
  | .bool, _, ⟨_, h⟩ => by rw [h]; rfl
  | .str, _, ⟨_, h, _⟩ => by rw [h]; rfl
  | .sl _, _, ⟨_, h, _⟩ => by rw [h]; rfl
  | .st _, _, h => by simp only [OfSh] at h; rw [OfAll.length h]; rfl
theorem OfAll.length : ∀ {l : List Sh} {ds : List D}, OfAll l ds → ds.length = Sh.sizes l
  | [], _, h => by simp only [OfAll] at h; rw [h]; rfl
  | s :: r, _, h => by
    simp only [OfAll] at h
    obtain ⟨a, b, rfl, h1, h2⟩ := h
    rw [List.length_append, OfSh.length h1, OfAll.length h2]
    rfl
end

theorem cells_size {P : Program} : ∀ {n : Nat} {t : TypeId} {s : Sh}, shOf P n t = some s → s.isSt = false → s.size = 1 := by
  intro n t s h hs
  cases s <;> first | rfl | simp [Sh.isSt] at hs

section
variable {H : Type} {enc : TypeId × Value → H} {P : Program} {w : World}

theorem lt_of_cell {w : World} {a : Addr} {v : Value} (h : w.cell? a = some v) : a.block < w.heap.size ∧ a.spot = none := by
  unfold World.cell? at h
  split at h
  · rename_i c _ _ hc
    split at h
    · cases h
    · rename_i hs
      exact ⟨(Array.getElem?_eq_some_iff.1 hc).1, by simpa using hs⟩
  · cases h

theorem cells_get {w : World} {base n : Nat} {a : Addr} {cs : List Value} (h : w.cells? base a n = some cs) : cs.length = n ∧ ∀ j, j < n → w.cell? (a.add j) = cs[j]? := by
  unfold World.cells? at h
  split at h
  · have key : ∀ {l : List Nat} {cs : List Value}, l.mapM (fun i => w.cell? (a.add i)) = some cs → cs.length = l.length ∧ ∀ (j i : Nat), l[j]? = some i → w.cell? (a.add i) = cs[j]? := by
      intro l
      induction l with
      | nil => intro cs h; simp at h; subst h; exact ⟨rfl, by simp⟩
      | cons i l ih =>
        intro cs h
        simp only [List.mapM_cons, Option.bind_eq_bind, Option.bind_eq_some_iff, Option.pure_def, Option.some.injEq] at h
        obtain ⟨v, h1, vs, h2, rfl⟩ := h
        obtain ⟨h3, h4⟩ := ih h2
        refine ⟨by simp [h3], fun j i' hj => ?_⟩
        cases j with
        | zero => simp at hj; subst hj; simpa using h1
        | succ j => simpa using h4 j i' (by simpa using hj)
    obtain ⟨h1, h2⟩ := key h
    exact ⟨by simpa using h1, fun j hj => h2 j j (by simp [hj])⟩
  · cases h

/-- **What is read by its type reads as data.** -/
theorem trod_sh : ∀ (fuel : Nat) {n : Nat} {t : TypeId} {cs : List Value} {x : DataW H × List MemPlace} {sh : Sh}, DataW.trod enc P w 0 (fun _ => true) true fuel t cs = some x → shOf P n t = some sh →
    ∃ ds : List D, ds.length = cs.length ∧ OfSh sh ds ∧ ∀ (i : Nat) (v : Value) (y : D), cs[i]? = some v → ds[i]? = some y → RdD w (Sall w) v y ∧ y.one = true := by
  intro fuel
  induction fuel with
  | zero => intro n t cs x sh h; simp [DataW.trod] at h
  | succ fuel ih =>
    intro n t cs x sh h hs
    have one : ∀ {v : Value} {y : D}, RdD w (Sall w) v y → y.one = true → ∀ (i : Nat) (v' : Value) (y' : D), [v][i]? = some v' → [y][i]? = some y' → RdD w (Sall w) v' y' ∧ y'.one = true := by
      intro v y h1 h2 i v' y' hv hy
      cases i with
      | zero => simp at hv hy; subst hv hy; exact ⟨h1, h2⟩
      | succ i => simp at hv
    cases n with
    | zero => simp [shOf] at hs
    | succ n =>
    simp only [shOf] at hs
    split at hs
    · rename_i k ht
      cases hs
      obtain ⟨m, rfl, _, hw⟩ := DataW.trod_int ht h
      simp only [Lit.wf, Bool.and_eq_true, decide_eq_true_eq] at hw
      exact ⟨[.v (.int k m)], rfl, ⟨m, rfl, hw⟩, one (.v rfl) rfl⟩
    · rename_i ht
      cases hs
      obtain ⟨b, rfl, _⟩ := DataW.trod_bool ht h
      exact ⟨[.v (.bool b)], rfl, ⟨b, rfl⟩, one (.v rfl) rfl⟩
    · rename_i ht
      cases hs
      obtain ⟨s, rfl, _, hw⟩ := DataW.trod_string ht h
      exact ⟨[.v (.string s)], rfl, ⟨s, rfl, hw⟩, one (.v rfl) rfl⟩
    · rename_i e ht
      obtain ⟨s, hse, hs⟩ := Option.bind_eq_some_iff.1 hs
      split at hs
      · rename_i hc
        obtain ⟨hc, hpos⟩ := hc
        cases hs
        rcases DataW.trod_slice ht h with ⟨rfl, _⟩ | ⟨a, len, cap, elems, rest, m, hm, rfl, _, _, hl, hcap, hlen, hel, hsp, _⟩
        · exact ⟨[.lst []], rfl, ⟨[], rfl, Nat.zero_le _, by simp⟩, one .nil rfl⟩
        · cases hm
          -- each element
          have hel2 : ∀ i, ∃ ds : List D, i < len → ∃ cs : List Value, w.cells? 0 (a.add (i * P.cellsOf e)) (P.cellsOf e) = some cs ∧ ds.length = cs.length ∧ OfSh s ds ∧ ∀ (j : Nat) (v : Value) (y : D), cs[j]? = some v → ds[j]? = some y → RdD w (Sall w) v y ∧ y.one = true := by
            intro i
            by_cases hi : i < len
            · have h1 := hel i hi
              rw [List.getElem?_eq_getElem (show i < elems.length by omega)] at h1
              obtain ⟨cs, h2, h3⟩ := Option.bind_eq_some_iff.1 h1
              obtain ⟨ds, h4, h5, h6⟩ := ih h3 hse
              exact ⟨ds, fun _ => ⟨cs, h2, h4, h5, h6⟩⟩
            · exact ⟨[], fun h => absurd h hi⟩
          let mk : List D → D := fun ds => if s.isSt = true then .agg ds else ds.headD (.v .nilIface)
          obtain ⟨f, hf⟩ := Classical.axiomOfChoice hel2
          have hmk : ∀ i, i < len → (mk (f i)).cells = f i ∧ ((s.isSt = true → ∃ cs, mk (f i) = .agg cs ∧ OfSh s cs) ∧ (s.isSt = false → OfSh s [mk (f i)])) := by
            intro i hi
            obtain ⟨cs, _, h4, h5, h6⟩ := hf i hi
            by_cases hst : s.isSt = true
            · have : mk (f i) = .agg (f i) := by simp only [mk]; rw [if_pos hst]
              rw [this]
              exact ⟨rfl, (fun _ => ⟨_, rfl, h5⟩), fun hh => (by rw [hst] at hh; cases hh)⟩
            · have hst : s.isSt = false := by simpa using hst
              have h1 : (f i).length = 1 := by rw [h5.length, cells_size hse hst]
              match hfi : f i, h1 with
              | [d], _ =>
                have : mk [d] = d := by simp only [mk]; rw [if_neg (by simp [hst])]; rfl
                rw [this]
                have hcl : cs.length = 1 := by rw [← h4, hfi]; rfl
                rw [hfi] at h5 h6
                have hd1 : d.one = true := (h6 0 cs[0] d (by simp [hcl]) rfl).2
                exact ⟨(by cases d <;> first | rfl | simp [D.one] at hd1), (fun hh => (by rw [hst] at hh; cases hh)), fun _ => h5⟩
          have hes : ∀ (i : Nat) (y : D), ((List.range len).map fun i => mk (f i))[i]? = some y → i < len ∧ y = mk (f i) := by
            intro i y hy
            simp only [List.getElem?_map, Option.map_eq_some_iff] at hy
            obtain ⟨q, hq, rfl⟩ := hy
            obtain ⟨h1, rfl⟩ := List.getElem?_eq_some_iff.1 hq
            simp only [List.length_range] at h1
            simp only [List.getElem_range]
            exact ⟨h1, trivial⟩
          refine ⟨[.lst ((List.range len).map fun i => mk (f i))], rfl, ⟨_, rfl, by simp; omega, fun y hy => ?_⟩, one ?_ rfl⟩
          · obtain ⟨i, hi⟩ := List.mem_iff_getElem?.1 hy
            obtain ⟨hil, rfl⟩ := hes i y hi
            exact (hmk i hil).2
          · by_cases hlen0 : len = 0
            · subst hlen0
              exact .emp hcap
            · -- the address is plain
              have hspot : a.spot = none := by
                obtain ⟨cs, h2, h4, h5, _⟩ := hf 0 (by omega)
                obtain ⟨h6, h7⟩ := cells_get h2
                have := h7 0 (by omega)
                rw [List.getElem?_eq_getElem (show 0 < cs.length by omega)] at this
                have := (lt_of_cell this).2
                simpa [Addr.add] using this
              obtain ⟨b, off, spot⟩ := a
              subst hspot
              have hcell : ∀ (i : Nat) (e' : D) (j : Nat) (d : D), ((List.range len).map fun i => mk (f i))[i]? = some e' → e'.cells[j]? = some d → ∃ v, w.cell? ⟨b, off + i * s.size + j, none⟩ = some v ∧ RdD w (Sall w) v d ∧ d.one = true := by
                intro i e' j d he hd
                obtain ⟨hil, rfl⟩ := hes i e' he
                rw [(hmk i hil).1] at hd
                obtain ⟨cs, h2, h4, h5, h6⟩ := hf i hil
                obtain ⟨h7, h8⟩ := cells_get h2
                have hj : j < (f i).length := (List.getElem?_eq_some_iff.1 hd).1
                have h9 := h8 j (by omega)
                rw [addr_add, addr_add, hc, List.getElem?_eq_getElem (show j < cs.length by omega)] at h9
                exact ⟨_, h9, h6 j _ d (List.getElem?_eq_getElem (by omega)) hd⟩
              refine .lst (size := s.size) (val := fun i j => (w.cell? ⟨b, off + i * s.size + j, none⟩).getD undef) (by simp) hl hcap (fun i e' he => ?_) (fun i e' j d he hd => ?_) (fun i e' j d he hd => ?_) (fun i e' j d he hd => ?_) fun i e' j d he hd => ?_
              · obtain ⟨hil, rfl⟩ := hes i e' he
                obtain ⟨cs, h2, h4, h5, h6⟩ := hf i hil
                rw [(hmk i hil).1, h5.length]
              · obtain ⟨v, _, _, h3⟩ := hcell i e' j d he hd; exact h3
              · obtain ⟨v, h1, _, _⟩ := hcell i e' j d he hd; exact (lt_of_cell h1).1
              · obtain ⟨v, h1, _, _⟩ := hcell i e' j d he hd; rw [h1]; rfl
              · obtain ⟨v, h1, h2, _⟩ := hcell i e' j d he hd; rw [h1]; exact h2
      · cases hs
    · rename_i fs ht
      obtain ⟨l, hl, hs⟩ := Option.bind_eq_some_iff.1 hs
      split at hs
      · rename_i hc
        cases hs
        obtain ⟨xs, m, hm, _, hcl, hxl, hf⟩ := DataW.trod_struct ht h
        cases hm
        -- the fields, one after the other
        have key : ∀ (fl : List Field) (off : Nat) (l : List Sh), shFields P (shOf P n) fl off = some l → off + Sh.sizes l ≤ cs.length → (∀ f, f ∈ fl → ∃ x, DataW.trod enc P w 0 (fun _ => true) true fuel f.type ((cs.drop f.offset).take (P.cellsOf f.type)) = some x) →
            ∃ ds : List D, OfAll l ds ∧ ∀ (i : Nat) (v : Value) (y : D), cs[off + i]? = some v → ds[i]? = some y → RdD w (Sall w) v y ∧ y.one = true := by
          intro fl
          induction fl with
          | nil => intro off l h1 _ _; simp [shFields] at h1; subst h1; exact ⟨[], by simp [OfAll], by simp⟩
          | cons f fl ihf =>
            intro off l h1 h2 h3
            simp only [shFields] at h1
            split at h1
            · rename_i hoff
              obtain ⟨s, hs1, h1⟩ := Option.bind_eq_some_iff.1 h1
              split at h1
              · rename_i hcs
                obtain ⟨l', hl', rfl⟩ := Option.map_eq_some_iff.1 h1
                simp only [Sh.sizes] at h2
                obtain ⟨ds2, g1, g2⟩ := ihf (off + s.size) l' hl' (by omega) fun f' hf' => h3 f' (by simp [hf'])
                obtain ⟨x, hx⟩ := h3 f (by simp)
                obtain ⟨ds1, k1, k2, k3⟩ := ih hx hs1
                have hlen1 := k2.length
                refine ⟨ds1 ++ ds2, by simp only [OfAll]; exact ⟨ds1, ds2, rfl, k2, g1⟩, fun i v y hv hy => ?_⟩
                by_cases hi : i < ds1.length
                · rw [List.getElem?_append_left hi] at hy
                  refine k3 i v y ?_ hy
                  rw [List.getElem?_take, if_pos (by omega), List.getElem?_drop, hoff]
                  exact hv
                · rw [List.getElem?_append_right (by omega)] at hy
                  refine g2 (i - ds1.length) v y ?_ hy
                  rw [← hv]
                  congr 1
                  omega
              · cases h1
            · cases h1
        obtain ⟨ds, h1, h2⟩ := key fs.toList 0 l hl (by rw [hcl, hc]; omega) fun f hf' => by
          obtain ⟨i, hi⟩ := List.mem_iff_getElem?.1 hf'
          have := hf i f (by simpa using hi)
          have hil : i < xs.length := by
            have := (List.getElem?_eq_some_iff.1 hi).1
            simp at this
            omega
          rw [List.getElem?_eq_getElem hil] at this
          exact ⟨_, this⟩
        refine ⟨ds, by rw [h1.length, hcl, hc], by simp only [OfSh]; exact h1, fun i v y hv hy => h2 i v y (by simpa using hv) hy⟩
      · cases hs
    · cases hs

end
end Go.Am
