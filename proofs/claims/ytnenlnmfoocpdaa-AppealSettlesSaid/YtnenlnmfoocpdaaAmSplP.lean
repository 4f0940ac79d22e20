/-
 Splitting an amount: plain facts.
-/
import Derived.Test.YtnenlnmfoocpdaaAmSortUtoAmSort5
set_option linter.unusedSimpArgs false
set_option linter.unusedVariables false
namespace Go.Am.Srt

def addAt (base : List Int) (l : List Int) : List Int := base.mapIdx fun i x => if (i : Int) ∈ l then x + 1 else x
def cutAt (base : List Int) (l : List Int) : List Int := base.mapIdx fun i x => if (i : Int) ∈ l then -1 else x

section
variable {base l : List Int}

theorem addAt_len : (addAt base l).length = base.length := by simp [addAt]
theorem cutAt_len : (cutAt base l).length = base.length := by simp [cutAt]
theorem addAt_get (i : Nat) : (addAt base l)[i]? = base[i]?.map fun x => if (i : Int) ∈ l then x + 1 else x := by simp [addAt]
theorem cutAt_get (i : Nat) : (cutAt base l)[i]? = base[i]?.map fun x => if (i : Int) ∈ l then -1 else x := by simp [cutAt]
theorem addAt_nil : addAt base [] = base := List.ext_getElem? fun i => by rw [addAt_get]; cases base[i]? <;> simp
theorem cutAt_nil : cutAt base [] = base := List.ext_getElem? fun i => by rw [cutAt_get]; cases base[i]? <;> simp

theorem addAt_snoc {j : Nat} {v : Int} (hj : (addAt base l)[j]? = some v) (hn : (j : Int) ∉ l) : (addAt base l).set j (v + 1) = addAt base (l ++ [(j : Int)]) := by
 refine List.ext_getElem? fun i => ?_
 rw [List.getElem?_set]
 by_cases h : j = i
 ·subst h
  have hl : j < (addAt base l).length := (List.getElem?_eq_some_iff.1 hj).1
  rw [if_pos rfl, if_pos hl]
  rw [addAt_get] at hj
  cases hb : base[j]? with
  | none => rw [hb] at hj; simp at hj
  | some x =>
   rw [hb, Option.map_some, if_neg hn, Option.some.injEq] at hj
   rw [addAt_get, hb, Option.map_some, if_pos (by simp), hj]
 ·rw [if_neg h, addAt_get, addAt_get]
  have : ¬ (i : Int) = (j : Int) := by omega
  simp only [List.mem_append, List.mem_singleton, this, or_false]

theorem cutAt_snoc {j : Nat} (hj : j < base.length) : (cutAt base l).set j (-1) = cutAt base (l ++ [(j : Int)]) := by
 refine List.ext_getElem? fun i => ?_
 rw [List.getElem?_set]
 by_cases h : j = i
 ·subst h
  rw [if_pos rfl, if_pos (by rw [cutAt_len]; exact hj), cutAt_get, List.getElem?_eq_getElem hj, Option.map_some, if_pos (by simp)]
 ·rw [if_neg h, cutAt_get, cutAt_get]
  have : ¬ (i : Int) = (j : Int) := by omega
  simp only [List.mem_append, List.mem_singleton, this, or_false]

end

theorem sum_bd {B : Int} (hB : 0 ≤ B) : ∀ {l : List Int}, (∀ x, x ∈ l → 0 ≤ x ∧ x ≤ B) → 0 ≤ l.sum ∧ l.sum ≤ B * l.length
 | [], _ => by simp
 | a :: l, h => by
  have h1 := sum_bd hB (l := l) fun x hx => h x (by simp [hx])
  have h2 := h a (by simp)
  rw [List.sum_cons, List.length_cons, Int.natCast_add, Int.mul_add]
  omega

def fl (a S s : Int) : Int := a * s / S
def rs (a S s : Int) : Int := a * s % S

def fls (a : Int) (sh : List Int) : List Int := sh.map (fl a sh.sum)
def rss (a : Int) (sh : List Int) : List Int := sh.map (rs a sh.sum)
def lft (a : Int) (sh : List Int) : Int := a - (fls a sh).sum

theorem fls_len (a : Int) (sh : List Int) : (fls a sh).length = sh.length := by simp [fls]
theorem rss_len (a : Int) (sh : List Int) : (rss a sh).length = sh.length := by simp [rss]

theorem parts (a S : Int) : ∀ l : List Int, (l.map (fl a S)).sum * S + (l.map (rs a S)).sum = a * l.sum
 | [] => by simp
 | x :: l => by
  have h := parts a S l
  have h2 := Int.mul_ediv_add_emod (a * x) S
  have e : fl a S x * S = S * (a * x / S) := Int.mul_comm _ _
  simp only [List.map_cons, List.sum_cons, Int.add_mul, Int.mul_add]
  rw [e]
  unfold rs
  unfold rs at h
  omega

structure ShOk (sh : List Int) : Prop where
 n0 : 0 < sh.length
 n1 : sh.length ≤ 100
 bd : ∀ x, x ∈ sh → 0 ≤ x ∧ x ≤ 1000000
 pos : 0 < sh.sum

section
variable {a : Int} {sh : List Int}

theorem ShOk.sum (h : ShOk sh) : sh.sum ≤ 100000000 := by
 have := (sum_bd (by omega) h.bd).2
 have := h.n1
 omega

theorem ShOk.mul (h : ShOk sh) (ha : 0 ≤ a ∧ a ≤ 1000000000000) {x : Int} (hx : x ∈ sh) : 0 ≤ a * x ∧ a * x ≤ 1000000000000000000 := by
 have hb := h.bd x hx
 refine ⟨Int.mul_nonneg ha.1 hb.1, ?_⟩
 calc a * x ≤ 1000000000000 * 1000000 := Int.mul_le_mul ha.2 hb.2 hb.1 (by omega)
  _ = 1000000000000000000 := by omega

theorem mem_le_sum : ∀ {l : List Int}, (∀ y, y ∈ l → 0 ≤ y) → ∀ x, x ∈ l → x ≤ l.sum
 | [], _, _, h => by cases h
 | b :: l, hp, x, hx => by
  have h1 := hp b (by simp)
  have hs : 0 ≤ l.sum := by
   have : ∀ l : List Int, (∀ y, y ∈ l → 0 ≤ y) → 0 ≤ l.sum := by
    intro l
    induction l with
    | nil => intro _; simp
    | cons c l ih => intro h; rw [List.sum_cons]; have := h c (by simp); have := ih fun y hy => h y (by simp [hy]); omega
   exact this l fun y hy => hp y (by simp [hy])
  rw [List.sum_cons]
  rcases List.mem_cons.1 hx with rfl | hx
  ·omega
  ·have := mem_le_sum (fun y hy => hp y (by simp [hy])) x hx
   omega

theorem fl_bd (h : ShOk sh) (ha : 0 ≤ a ∧ a ≤ 1000000000000) {x : Int} (hx : x ∈ sh) : 0 ≤ fl a sh.sum x ∧ fl a sh.sum x ≤ 1000000000000 := by
 have hm := h.mul ha hx
 have hp := h.pos
 refine ⟨Int.ediv_nonneg hm.1 (by omega), ?_⟩
 have hle := mem_le_sum (fun y hy => (h.bd y hy).1) x hx
 have : a * x ≤ a * sh.sum := Int.mul_le_mul_of_nonneg_left hle ha.1
 have h2 : fl a sh.sum x ≤ a := by
  unfold fl
  exact Int.ediv_le_of_le_mul hp this
 omega

theorem rs_bd (h : ShOk sh) (a x : Int) : 0 ≤ rs a sh.sum x ∧ rs a sh.sum x < sh.sum := ⟨Int.emod_nonneg _ (by have := h.pos; omega), Int.emod_lt_of_pos _ h.pos⟩

theorem lft_bd (h : ShOk sh) (a : Int) : 0 ≤ lft a sh ∧ lft a sh < sh.length ∧ lft a sh * sh.sum = (rss a sh).sum := by
 have hp := h.pos
 have e := parts a sh.sum sh
 have e1 : lft a sh * sh.sum = (rss a sh).sum := by
  unfold lft
  rw [Int.sub_mul]
  unfold fls rss
  omega
 have hb := sum_bd (B := sh.sum - 1) (by omega) (l := rss a sh) (fun x hx => by
  obtain ⟨s, _, rfl⟩ := List.mem_map.1 hx
  have := rs_bd h a s
  omega)
 rw [rss_len] at hb
 have hn := h.n0
 refine ⟨?_, ?_, e1⟩
 ·rcases Int.lt_or_le (lft a sh) 0 with h0 | h0
  ·exfalso
   have : lft a sh * sh.sum < 0 := Int.mul_neg_of_neg_of_pos h0 hp
   omega
  ·exact h0
 ·rcases Int.lt_or_le (lft a sh) sh.length with h0 | h0
  ·exact h0
  ·exfalso
   have h1 : (sh.length : Int) * sh.sum ≤ lft a sh * sh.sum := Int.mul_le_mul_of_nonneg_right h0 (by omega)
   have h2 : (sh.sum - 1) * (sh.length : Int) = (sh.length : Int) * sh.sum - sh.length := by
    rw [Int.sub_mul, Int.one_mul, Int.mul_comm]
   omega

theorem fls_take (h : ShOk sh) (ha : 0 ≤ a ∧ a ≤ 1000000000000) (i : Nat) : 0 ≤ ((fls a sh).take i).sum ∧ ((fls a sh).take i).sum ≤ 100000000000000 := by
 have hb := sum_bd (B := 1000000000000) (by omega) (l := (fls a sh).take i) (fun x hx => by
  obtain ⟨s, hs, rfl⟩ := List.mem_map.1 (List.mem_of_mem_take hx)
  exact fl_bd h ha hs)
 have hl : ((fls a sh).take i).length ≤ 100 := by
  rw [List.length_take, fls_len]
  have := h.n1
  omega
 omega

theorem fl_alt {S : Int} (hS : 0 < S) (a s : Int) : a / S * s + a % S * s / S = fl a S s ∧ a % S * s % S = rs a S s := by
 have e : a * s = a % S * s + S * (a / S * s) := by
  have := Int.mul_ediv_add_emod a S
  calc a * s = (S * (a / S) + a % S) * s := by rw [this]
   _ = _ := by rw [Int.add_mul, Int.mul_assoc, Int.add_comm]
 unfold fl rs
 rw [e, Int.add_mul_ediv_left _ _ (by omega), Int.add_mul_emod_self_left]
 exact ⟨Int.add_comm _ _, rfl⟩

end
end Go.Am.Srt
