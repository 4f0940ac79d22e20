/-
  Several texts, one behind the other.
-/
import Derived.Test.YtnenlnmfoocpdaaAmEvaltoAmSt2
import Derived.Sort.Row
import Derived.Sort.Grow
import Derived.Lib.SlicesCompact
set_option linter.unusedSimpArgs false
set_option linter.unusedVariables false
/-
 Stable sorting: the library's functions, as texts over the numbers of those that they call.
-/
namespace Go.Am.Srt

end Go.Am.Srt

/-
 Stable sorting of lists of numbers that grow: plain facts.
-/
namespace Go.Am.Srt

def lt (c : Int → Int → Int) (x y : Int) : Prop := c x y < 0 ∨ (c x y = 0 ∧ x < y)

instance (c : Int → Int → Int) (x y : Int) : Decidable (lt c x y) := by unfold lt; infer_instance

structure Ord (c : Int → Int → Int) (dom : Int → Prop) : Prop where
 anti : ∀ x y, dom x → dom y → (c x y < 0 ↔ 0 < c y x)
 trans : ∀ x y z, dom x → dom y → dom z → c x y ≤ 0 → c y z ≤ 0 → c x z ≤ 0

section
variable {c : Int → Int → Int} {dom : Int → Prop}

def ins (c : Int → Int → Int) (x : Int) : List Int → List Int
 | [] => [x]
 | y :: r => if lt c x y then x :: y :: r else y :: ins c x r

def so (c : Int → Int → Int) : List Int → List Int
 | [] => []
 | x :: l => ins c x (so c l)

def blk (c : Int → Int → Int) (k : Nat) (l : List Int) : List Int :=
 if h : 0 < k ∧ k < l.length then so c (l.take k) ++ blk c k (l.drop k) else so c l
termination_by l.length
decreasing_by simp; omega

end
end Go.Am.Srt

/-
 Stable sorting: exchanges, rotation, insertion.
-/
namespace Go.Am.Srt
set_option maxRecDepth 100000
set_option maxHeartbeats 4000000

abbrev J (n : Int) : D := .v (.int .i64 n)
abbrev V (b : Bool) : D := .v (.bool b)

def Row (bs : List D) (b : Nat) (e : TypeId) (xs : List Int) : List D := bs.set b (.blk e 1 (xs.map J))

section
variable {bs : List D} {b : Nat} {e : TypeId} {xs : List Int}

theorem row_get (hb : b < bs.length) : (Row bs b e xs)[b]? = some (.blk e 1 (xs.map J)) := by simp [Row, hb]
theorem row_ld (hb : b < bs.length) {j : Nat} {x : Int} (hj : xs[j]? = some x) : D.ld false 1 (.st (Row bs b e xs)) (.loc b (j * 1)) = some (J x) := by
 simp only [D.ld, D.cellsAt, row_get hb, Option.bind_some, Bool.false_eq_true, if_false]
 simp [hj]
theorem row_sto (hb : b < bs.length) {j : Nat} (hj : j < xs.length) {x : Int} : D.sto 1 (.st (Row bs b e xs)) (.loc b (j * 1)) (J x) = some (.st (Row bs b e (xs.set j x))) := by
 rw [sto_blk (row_get hb) (by simpa using hj) rfl]
 simp [Row]
end

variable {P : Program} {bs : List D} {b : Nat} {e : TypeId} {cf cf132 cf131 cf129 cf128 cf122 cf108 : StCfg} {fn : D} {f132 f131 f129 f128 f122 f108 : FuncId}

end Go.Am.Srt

/-
 The library's functions that change a row of numbers in place: from the kit's contracts to these.
-/
namespace Go.Am.Srt

theorem heap_putRow {w : World} {b off : Nat} {d : Array Int} {c : Array Value} {e : TypeId} {fr : Nat × Nat} (h : w.heap[b]? = some (.cells c e fr)) :
  (Sort.putRow (Value.int .i64) w b off d).heap[b]? = some (.cells (Sort.putCells (Value.int .i64) off d c) e fr) := by
 simp [Sort.putRow, Sort.mapBlock, Array.getElem?_modify, h, Sort.onCells]

theorem heap_putRow_ne {w : World} {b off k : Nat} {d : Array Int} (h : k ≠ b) : (Sort.putRow (Value.int .i64) w b off d).heap[k]? = w.heap[k]? := by
 simp [Sort.putRow, Sort.mapBlock, Array.getElem?_modify, Ne.symm h]

theorem size_putRow {w : World} {b off : Nat} {d : Array Int} : (Sort.putRow (Value.int .i64) w b off d).heap.size = w.heap.size := by
 simp [Sort.putRow, Sort.mapBlock]

theorem row_world {w w' : World} {S : Sets} {foot : Nat → Prop} {bs : List D} {b : Nat} {e : TypeId} {xs ys zs : List Int} (hst : StOk w S foot bs) (hS : ∀ b o, S b o → b < w.heap.size) (hfl : ∀ b, foot b → b < w.heap.size) (hb : bs[b]? = some (.blk e 1 (xs.map J))) (hl : ys.length ≤ xs.length) (hz : zs.length = xs.length) (hyz : ∀ j, j < ys.length → zs[j]? = ys[j]?)
  {q : Nat} {os : Array Obj} (hw : w' = Sort.grow (Sort.putRow (Value.int .i64) (Sort.ahead w q) (S.loc b) 0 zs.toArray) os) :
  StOk w' S foot (bs.set b (.blk e 1 (ys.map J))) ∧ Keeps S w w' ∧ w'.os = w.os ∧ w'.tape = w.tape ∧ w'.output = w.output ∧ w.heap.size ≤ w'.heap.size ∧ (∀ k, k < w.heap.size → ¬ foot k → w'.heap[k]? = w.heap[k]?) := by
 obtain ⟨hf, vs, hh, hsz, hlen, hone, hr, hns⟩ := hst.cells b _ _ _ hb
 have hvl : xs.length ≤ vs.size := by simpa using hlen
 have hlt : S.loc b < w.heap.size := hfl _ hf
 have hsz2 : (Sort.putRow (Value.int .i64) (Sort.ahead w q) (S.loc b) 0 zs.toArray).heap.size = w.heap.size := size_putRow
 have heap_old : ∀ k, k < w.heap.size → w'.heap[k]? = (Sort.putRow (Value.int .i64) (Sort.ahead w q) (S.loc b) 0 zs.toArray).heap[k]? := fun k hk => by
  rw [hw]
  unfold Sort.grow
  simp only
  rw [Array.getElem?_append_left (by rw [hsz2]; exact hk)]
 have hother : ∀ k, k < w.heap.size → k ≠ S.loc b → w'.heap[k]? = w.heap[k]? := fun k hk hne => by
  rw [heap_old k hk, heap_putRow_ne hne]
  rfl
 have hnew : w'.heap[S.loc b]? = some (.cells (Sort.putCells (Value.int .i64) 0 zs.toArray vs) e (0, 0)) := by
  rw [heap_old _ hlt]
  exact heap_putRow (w := Sort.ahead w q) hh
 have hcell : ∀ k o, k < w.heap.size → k ≠ S.loc b → w'.cell? ⟨k, o, none⟩ = w.cell? ⟨k, o, none⟩ := fun k o hk hne => by
  unfold World.cell?
  rw [show w'.heap[(⟨k, o, none⟩ : Addr).block]? = w.heap[(⟨k, o, none⟩ : Addr).block]? from hother k hk hne]
 have hK : Keeps S w w' := fun k o hko => hcell k o (hS k o hko) fun e => hns o (e ▸ hko)
 refine ⟨?_, hK, by rw [hw]; rfl, by rw [hw]; rfl, by rw [hw]; rfl, by rw [hw]; unfold Sort.grow; simp only [Array.size_append]; rw [hsz2]; omega, fun k hk hnf => hother k hk fun e => hnf (e ▸ hf)⟩
 have live_lt : ∀ {i : Nat} {x : D}, bs[i]? = some x → x.live = true → S.loc i < w.heap.size := fun hi hx => hfl _ (hst.live_foot hi hx)
 refine ⟨by rw [hst.n]; simp, fun i' e' sz cs hi' => ?_, hst.nos, fun i' kvs2 hi' => ?_, fun i' j' x' y' hi' hj' hx' hy' hll => ?_⟩
 ·rw [List.getElem?_set] at hi'
  split at hi'
  ·rename_i hii
   subst hii
   simp only [(List.getElem?_eq_some_iff.1 hb).1, if_true, Option.some.injEq, D.blk.injEq] at hi'
   obtain ⟨rfl, rfl, rfl⟩ := hi'
   refine ⟨hf, _, hnew, by simp [Sort.putCells, hsz], by simp [Sort.putCells]; omega, fun j d hd => ?_, fun j v d hv hd => ?_, hns⟩
   ·simp only [List.getElem?_map, Option.map_eq_some_iff] at hd
    obtain ⟨n, _, rfl⟩ := hd
    rfl
   ·simp only [List.getElem?_map, Option.map_eq_some_iff] at hd
    obtain ⟨n, hn, rfl⟩ := hd
    have hj : j < ys.length := (List.getElem?_eq_some_iff.1 hn).1
    have hjz := hyz j hj
    rw [hn] at hjz
    simp only [Sort.putCells, Array.getElem?_mapIdx, Option.map_eq_some_iff] at hv
    obtain ⟨x, _, hx⟩ := hv
    rw [if_pos ⟨Nat.zero_le _, by simp; omega⟩] at hx
    have : zs.toArray[j - 0]! = n := by
     have hjl : j < zs.length := by omega
     simp only [Nat.sub_zero, List.getElem!_toArray]
     rw [getElem!_pos zs j hjl]
     rw [List.getElem?_eq_getElem hjl] at hjz
     simpa using hjz
    rw [this] at hx
    subst hx
    exact .v rfl
  ·rename_i hii
   obtain ⟨hf', vs', hh', hsz', hlen', hone', hr', hns'⟩ := hst.cells i' _ _ _ hi'
   refine ⟨hf', vs', ?_, hsz', hlen', hone', fun j v d hv hd' => (hr' j v d hv hd').keep hK (Sets.le_refl _), hns'⟩
   rw [hother _ (live_lt hi' rfl) fun e => hii (hst.inj b i' _ _ hb hi' rfl rfl e.symm)]
   exact hh'
 ·rw [List.getElem?_set] at hi'
  split at hi'
  ·rename_i hii
   subst hii
   simp [(List.getElem?_eq_some_iff.1 hb).1] at hi'
  ·rename_i hii
   obtain ⟨hf', es, clock, hh', hsz', hns', hr'⟩ := hst.maps i' _ hi'
   refine ⟨hf', es, clock, ?_, hsz', hns', fun j e kv he hkv => ?_⟩
   ·rw [hother _ (live_lt hi' rfl) fun e => hii (hst.inj b i' _ _ hb hi' rfl rfl e.symm)]
    exact hh'
   ·obtain ⟨dk, dv, h1, h2, h3⟩ := hr' j e kv he hkv
    exact ⟨dk, dv, h1, h2.keep hK (Sets.le_refl _), h3.keep hK (Sets.le_refl _)⟩
 ·have old : ∀ {k : Nat} {z : D}, (bs.set b (.blk e 1 (ys.map J)))[k]? = some z → z.live = true → ∃ z', bs[k]? = some z' ∧ z'.live = true := by
   intro k z hk hz
   rw [List.getElem?_set] at hk
   split at hk
   ·rename_i hik; subst hik; exact ⟨_, hb, rfl⟩
   ·exact ⟨_, hk, hz⟩
  obtain ⟨_, h1, h1'⟩ := old hi' hx'
  obtain ⟨_, h2, h2'⟩ := old hj' hy'
  exact hst.inj i' j' _ _ h1 h2 h1' h2' hll

theorem row_holds {w : World} {S : Sets} {foot : Nat → Prop} {bs : List D} {b : Nat} {e : TypeId} {xs : List Int} (hst : StOk w S foot bs) (hb : bs[b]? = some (.blk e 1 (xs.map J))) : Sort.Holds (Value.int .i64) w (S.loc b) 0 xs.toArray := by
 obtain ⟨hf, vs, hh, hsz, hlen, hone, hr, hns⟩ := hst.cells b _ _ _ hb
 intro j hj
 have hj' : j < xs.length := by simpa using hj
 have hvl : xs.length ≤ vs.size := by simpa using hlen
 have hv : vs[j]? = some vs[j] := Array.getElem?_eq_getElem (by omega)
 have h := hr j vs[j] (J xs[j]) hv (by simp [hj'])
 have hx : vs[j] = .int .i64 xs[j] := by
  generalize vs[j] = v at h
  cases h
  rfl
 refine ⟨?_, ?_⟩
 ·rw [Nat.zero_add, cell_heap hh, hv, hx]
  simp [hj']
 ·simp [World.frozen?, hh]

variable {P : Program} {f : FuncId}

theorem sortW (h : ∀ (blk off cap : Nat) (zs : List Int) (w : World), Sort.Holds (Value.int .i64) w blk off zs.toArray → blk < w.heap.size → zs.length < 4611686018427387904 → Calls P f #[.slice (some ⟨blk, off, none⟩) zs.length cap] w fun e w' => e = .returned (.tuple #[]) ∧ ∃ n os, w' = Sort.grow (Sort.putRow (Value.int .i64) (Sort.ahead w n) blk off (zs.mergeSort fun x y => decide (x ≤ y)).toArray) os)
  {bs : List D} {b : Nat} {e : TypeId} {xs : List Int} (hb : bs[b]? = some (.blk e 1 (xs.map J))) (hL : xs.length < 4611686018427387904) :
  FSpecW P f (.st bs) [.sl b 0 xs.length] (.tup []) (.st (bs.set b (.blk e 1 ((xs.mergeSort fun x y => decide (x ≤ y)).map J)))) := by
 intro w S foot bs0 vs heq hst hhold hfl hS hvl hrd
 cases heq
 obtain ⟨v, rfl⟩ : ∃ v, vs = #[v] := by
  match vs, hvl with
  | ⟨[v]⟩, _ => exact ⟨v, rfl⟩
 have hv := hrd 0 v (.sl b 0 xs.length) rfl rfl
 cases hv with
 | sl hn hl hc h0 =>
  rename_i c
  obtain ⟨hf, _⟩ := hst.cells b _ _ _ hb
  refine (h (S.loc b) 0 c xs w (row_holds hst hb) (hfl _ hf) hL).mono ?_
  rintro _ w' ⟨rfl, q, os, hw⟩
  obtain ⟨k1, k2, k3, k4, k5, k6, k7⟩ := row_world (ys := xs.mergeSort fun x y => decide (x ≤ y)) hst hS hfl hb (by simp) (by simp) (fun _ _ => rfl) hw
  exact ⟨.tuple #[], S, foot, _, ⟨rfl, .tup rfl fun i v d hv => by simp at hv⟩, rfl, k1, k2, Sets.le_refl _, k3, k4, k5, k6, k7, fun k hk => ⟨.inl hk, Nat.lt_of_lt_of_le (hfl k hk) k6⟩, fun k o hk => .inl hk, fun k o hk => Nat.lt_of_lt_of_le (hS k o hk) k6⟩

theorem sortN (h : ∀ (p : Option Addr) (cap : Nat) (w : World), Calls P f #[.slice p 0 cap] w fun e w' => e = .returned (.tuple #[]) ∧ ∃ n, w' = Sort.ahead w n) {bs : List D} : FSpecW P f (.st bs) [.snil] (.tup []) (.st bs) := by
 intro w S foot bs0 vs heq hst hhold hfl hS hvl hrd
 cases heq
 obtain ⟨v, rfl⟩ : ∃ v, vs = #[v] := by
  match vs, hvl with
  | ⟨[v]⟩, _ => exact ⟨v, rfl⟩
 have hv := hrd 0 v .snil rfl rfl
 cases hv
 refine (h none 0 w).mono ?_
 rintro _ w' ⟨rfl, n, rfl⟩
 have hst' : StOk (Sort.ahead w n) S foot bs := ⟨hst.n, fun i e sz cs hi => by
  obtain ⟨a1, vs, a2, a3, a4, a5, a6, a7⟩ := hst.cells i e sz cs hi
  exact ⟨a1, vs, a2, a3, a4, a5, fun j v d hv hd => (a6 j v d hv hd).keep (fun _ _ _ => rfl) (Sets.le_refl _), a7⟩, hst.nos, fun i kvs hi => by
  obtain ⟨a1, es, cl, a2, a3, a4, a5⟩ := hst.maps i kvs hi
  refine ⟨a1, es, cl, a2, a3, a4, fun j e kv he hkv => ?_⟩
  obtain ⟨dk, dv, b1, b2, b3⟩ := a5 j e kv he hkv
  exact ⟨dk, dv, b1, b2.keep (fun _ _ _ => rfl) (Sets.le_refl _), b3.keep (fun _ _ _ => rfl) (Sets.le_refl _)⟩, hst.inj⟩
 exact ⟨.tuple #[], S, foot, _, ⟨rfl, .tup rfl fun i v d hv => by simp at hv⟩, rfl, hst', fun _ _ _ => rfl, Sets.le_refl _, rfl, rfl, rfl, Nat.le_refl _, fun _ _ _ => rfl, fun k hk => ⟨.inl hk, hfl k hk⟩, fun k o hk => .inl hk, fun k o hk => hS k o hk⟩

theorem compactW {cp : List Int → List Int} (h : ∀ (blk off cap : Nat) (zs : List Int) (w : World), Sort.Holds (Value.int .i64) w blk off zs.toArray → zs.length ≤ 9223372036854775807 → zs.length ≤ cap → Calls P f #[.slice (some ⟨blk, off, none⟩) zs.length cap] w fun e w' => e = .returned (.slice (some ⟨blk, off, none⟩) (cp zs).length cap) ∧ ∃ q, w' = Sort.putRow (Value.int .i64) (Sort.ahead w q) blk off (cp zs ++ List.replicate (zs.length - (cp zs).length) 0).toArray)
  {bs : List D} {b : Nat} {e : TypeId} {xs : List Int} (hb : bs[b]? = some (.blk e 1 (xs.map J))) (hL : xs.length ≤ 9223372036854775807) (hcl : (cp xs).length ≤ xs.length) :
  FSpecW P f (.st bs) [.sl b 0 xs.length] (.sl b 0 (cp xs).length) (.st (bs.set b (.blk e 1 ((cp xs).map J)))) := by
 intro w S foot bs0 vs heq hst hhold hfl hS hvl hrd
 cases heq
 obtain ⟨v, rfl⟩ : ∃ v, vs = #[v] := by
  match vs, hvl with
  | ⟨[v]⟩, _ => exact ⟨v, rfl⟩
 have hv := hrd 0 v (.sl b 0 xs.length) rfl rfl
 cases hv with
 | sl hn hl hc h0 =>
  rename_i c
  obtain ⟨hf, _⟩ := hst.cells b _ _ _ hb
  refine (h (S.loc b) 0 c xs w (row_holds hst hb) hL hl).mono ?_
  rintro _ w' ⟨rfl, q, hw⟩
  obtain ⟨k1, k2, k3, k4, k5, k6, k7⟩ := row_world (ys := cp xs) (zs := cp xs ++ List.replicate (xs.length - (cp xs).length) 0) (os := #[]) hst hS hfl hb hcl (by rw [List.length_append, List.length_replicate, Nat.add_sub_cancel' hcl]) (fun j hj => by rw [List.getElem?_append_left hj]) (hw.trans (Sort.grow_empty _).symm)
  exact ⟨_, S, foot, _, ⟨rfl, .sl hn (Nat.le_trans hcl hl) hc h0⟩, rfl, k1, k2, Sets.le_refl _, k3, k4, k5, k6, k7, fun k hk => ⟨.inl hk, Nat.lt_of_lt_of_le (hfl k hk) k6⟩, fun k o hk => .inl hk, fun k o hk => Nat.lt_of_lt_of_le (hS k o hk) k6⟩

theorem compactN (h : ∀ (a : Option Addr) (cap : Nat) (w : World), Calls P f #[.slice a 0 cap] w fun e w' => e = .returned (.slice a 0 cap) ∧ w' = w) {bs : List D} : FSpecW P f (.st bs) [.snil] .snil (.st bs) := by
 intro w S foot bs0 vs heq hst hhold hfl hS hvl hrd
 cases heq
 obtain ⟨v, rfl⟩ : ∃ v, vs = #[v] := by
  match vs, hvl with
  | ⟨[v]⟩, _ => exact ⟨v, rfl⟩
 have hv := hrd 0 v .snil rfl rfl
 cases hv
 refine (h none 0 w).mono ?_
 rintro _ w' ⟨rfl, rfl⟩
 exact ⟨_, S, foot, _, ⟨rfl, .snil⟩, rfl, hst, fun _ _ _ => rfl, Sets.le_refl _, rfl, rfl, rfl, Nat.le_refl _, fun _ _ _ => rfl, fun k hk => ⟨.inl hk, hfl k hk⟩, fun k o hk => .inl hk, fun k o hk => hS k o hk⟩

end Go.Am.Srt

/-
 Lists of numbers, sorted, each one once.
-/
namespace Go.Am.Srt

theorem strict_unique : ∀ {l1 l2 : List Int}, l1.Pairwise (· < ·) → l2.Pairwise (· < ·) → (∀ x, x ∈ l1 ↔ x ∈ l2) → l1 = l2
 | [], [], _, _, _ => rfl
 | [], b :: _, _, _, h => by have := (h b).2 (by simp); cases this
 | a :: _, [], _, _, h => by have := (h a).1 (by simp); cases this
 | a :: l1, b :: l2, h1, h2, h => by
  rw [List.pairwise_cons] at h1 h2
  have e : a = b := by
   rcases List.mem_cons.1 ((h a).1 (by simp)) with e | ha
   ·exact e
   ·rcases List.mem_cons.1 ((h b).2 (by simp)) with e | hb
    ·exact e.symm
    ·have := h1.1 b hb
     have := h2.1 a ha
     omega
  subst e
  rw [strict_unique h1.2 h2.2 fun x => ?_]
  constructor
  ·intro hx
   rcases List.mem_cons.1 ((h x).1 (by simp [hx])) with e | h3
   ·subst e; have := h1.1 x hx; omega
   ·exact h3
  ·intro hx
   rcases List.mem_cons.1 ((h x).2 (by simp [hx])) with e | h3
   ·subst e; have := h2.1 x hx; omega
   ·exact h3

def uniq (l : List Int) : List Int := Lib.compact (l.mergeSort fun x y => decide (x ≤ y))

theorem compact_sorted {zs : List Int} (hs : zs.Pairwise (· ≤ ·)) : ∀ m, m ≤ zs.length → (Lib.compactUpTo zs.toArray m).Pairwise (· < ·) ∧ (∀ x, x ∈ Lib.compactUpTo zs.toArray m ↔ x ∈ zs.take m) ∧ (∀ x y, x ∈ Lib.compactUpTo zs.toArray m → zs[m - 1]? = some y → x ≤ y) ∧ (Lib.compactUpTo zs.toArray m).length ≤ m
 | 0, _ => by simp [Lib.compactUpTo]
 | m + 1, h => by
  obtain ⟨i1, i2, i3, i4⟩ := compact_sorted hs m (by omega)
  have hm : m < zs.length := by omega
  have em : zs.toArray[m]! = zs[m] := by simp [hm]
  have tk : zs.take (m + 1) = zs.take m ++ [zs[m]] := List.take_succ_eq_append_getElem hm
  have hle : ∀ x, x ∈ zs.take m → x ≤ zs[m] := fun x hx => by
   obtain ⟨i, hi, rfl⟩ := List.mem_iff_getElem.1 hx
   rw [List.length_take] at hi
   rw [List.getElem_take]
   exact (List.pairwise_iff_getElem.1 hs) i m (by omega) hm (by omega)
  rw [Lib.compactUpTo_succ, em]
  by_cases hk : Lib.keeps zs.toArray m = true
  ·rw [if_pos hk]
   have hlt : ∀ x, x ∈ Lib.compactUpTo zs.toArray m → x < zs[m] := fun x hx => by
    have h1 := hle x ((i2 x).1 hx)
    unfold Lib.keeps at hk
    rw [decide_eq_true_eq, em] at hk
    rcases hk with h0 | hne
    ·subst h0; simp [Lib.compactUpTo] at hx
    ·by_cases h0 : m = 0
     ·subst h0; simp [Lib.compactUpTo] at hx
     ·have hm1 : m - 1 < zs.length := by omega
      have e1 : zs.toArray[m - 1]! = zs[m - 1] := by simp [hm1]
      rw [e1] at hne
      have h2 := i3 x zs[m - 1] hx (List.getElem?_eq_getElem hm1)
      have h3 := (List.pairwise_iff_getElem.1 hs) (m - 1) m hm1 hm (by omega)
      omega
   refine ⟨?_, fun x => ?_, fun x y hx hy => ?_, by rw [List.length_append]; simp; omega⟩
   ·rw [List.pairwise_append]
    exact ⟨i1, by simp, fun x hx y hy => by simp at hy; rw [hy]; exact hlt x hx⟩
   ·rw [tk, List.mem_append, List.mem_append, i2]
   ·rw [Nat.add_sub_cancel, List.getElem?_eq_getElem hm, Option.some.injEq] at hy
    rw [← hy]
    rcases List.mem_append.1 hx with hx | hx
    ·exact hle x ((i2 x).1 hx)
    ·simp at hx; omega
  ·rw [if_neg hk, List.append_nil]
   unfold Lib.keeps at hk
   rw [decide_eq_true_eq, em] at hk
   have h0 : m ≠ 0 := fun e => hk (.inl e)
   have hm1 : m - 1 < zs.length := by omega
   have e1 : zs.toArray[m - 1]! = zs[m - 1] := by simp [hm1]
   rw [e1] at hk
   have e2 : zs[m] = zs[m - 1] := Decidable.not_not.1 fun h => hk (.inr h)
   have hmem : zs[m] ∈ zs.take m := by
    rw [e2]
    exact List.mem_iff_getElem.2 ⟨m - 1, by rw [List.length_take]; omega, by rw [List.getElem_take]⟩
   refine ⟨i1, fun x => ?_, fun x y hx hy => ?_, by omega⟩
   ·rw [tk, List.mem_append, i2]
    constructor
    ·exact .inl
    ·rintro (h | h)
     ·exact h
     ·simp at h; rw [h]; exact hmem
   ·rw [Nat.add_sub_cancel, List.getElem?_eq_getElem hm, Option.some.injEq] at hy
    rw [← hy]
    exact hle x ((i2 x).1 hx)

theorem uniq_ok (l : List Int) : (uniq l).Pairwise (· < ·) ∧ (∀ x, x ∈ uniq l ↔ x ∈ l) ∧ (uniq l).length ≤ l.length := by
 have hs : (l.mergeSort fun x y => decide (x ≤ y)).Pairwise (· ≤ ·) := by
  have := List.pairwise_mergeSort (le := fun x y : Int => decide (x ≤ y)) (fun a b c h1 h2 => by simp at *; omega) (fun a b => by simp; omega) l
  exact this.imp fun h => by simpa using h
 obtain ⟨h1, h2, _, h4⟩ := compact_sorted hs _ (Nat.le_refl _)
 refine ⟨h1, fun x => ?_, Nat.le_trans h4 (by rw [List.length_mergeSort]; exact Nat.le_refl _)⟩
 unfold uniq Lib.compact
 rw [h2, List.take_length]
 exact (List.mergeSort_perm l _).mem_iff

theorem uniq_eq {l r : List Int} (h : r.Pairwise (· < ·)) (hm : ∀ x, x ∈ r ↔ x ∈ l) : uniq l = r :=
 strict_unique (uniq_ok l).1 h fun x => ((uniq_ok l).2.1 x).trans (hm x).symm

end Go.Am.Srt
