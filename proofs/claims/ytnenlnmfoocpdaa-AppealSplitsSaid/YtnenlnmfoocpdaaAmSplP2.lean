/-
 Splitting an amount: who gets one more.
-/
import Derived.Test.YtnenlnmfoocpdaaAmSplP
set_option linter.unusedSimpArgs false
set_option linter.unusedVariables false
namespace Go.Am.Srt

theorem sum_perm {l r : List Int} (h : l.Perm r) : l.sum = r.sum := by
 induction h with
 | nil => rfl
 | cons x _ ih => simp only [List.sum_cons, ih]
 | swap x y l => simp only [List.sum_cons]; omega
 | trans _ _ h1 h2 => exact h1.trans h2

theorem sum_set {l : List Int} : ∀ {i : Nat} {v : Int} (y : Int), l[i]? = some v → (l.set i y).sum = l.sum + (y - v) := by
 induction l with
 | nil => intro i v y h; simp at h
 | cons a l ih =>
  intro i v y h
  cases i with
  | zero => simp at h; subst h; simp only [List.set_cons_zero, List.sum_cons]; omega
  | succ i =>
   simp only [List.set_cons_succ, List.sum_cons, ih y (by simpa using h)]
   omega

theorem addAt_sum {base : List Int} {l : List Int} (hn : l.Nodup) (hb : ∀ x, x ∈ l → 0 ≤ x ∧ x < base.length) : (addAt base l).sum = base.sum + l.length := by
 have : ∀ r : List Int, ∀ l, l = r.reverse → l.Nodup → (∀ x, x ∈ l → 0 ≤ x ∧ x < base.length) → (addAt base l).sum = base.sum + l.length := by
  intro r
  induction r with
  | nil => intro l e _ _; subst e; simp [addAt_nil]
  | cons x r ih =>
   intro l e hn hb
   rw [List.reverse_cons] at e
   subst e
   have hx := hb x (by simp)
   obtain ⟨j, rfl⟩ : ∃ j : Nat, x = j := ⟨x.toNat, by omega⟩
   have hn2 := List.nodup_append.1 hn
   have hnm : (j : Int) ∉ r.reverse := fun hm => hn2.2.2 _ hm _ (by simp) rfl
   have ih' := ih r.reverse rfl hn2.1 (fun y hy => hb y (List.mem_append.2 (.inl hy)))
   have hjl : j < (addAt base r.reverse).length := by rw [addAt_len]; omega
   rw [← addAt_snoc (List.getElem?_eq_getElem hjl) hnm, sum_set _ (List.getElem?_eq_getElem hjl), ih', List.length_append]
   simp only [List.length_cons, List.length_nil]
   omega
 exact this l.reverse l (by simp) hn hb

theorem sum_getD (xs : List Int) : ((List.range xs.length).map fun i => xs.getD i 0).sum = xs.sum := by
 have : (List.range xs.length).map (fun i => xs.getD i 0) = xs := by
  refine List.ext_getElem? fun i => ?_
  rw [List.getElem?_map]
  rcases Nat.lt_or_ge i xs.length with h | h
  ·rw [List.getElem?_range h, List.getElem?_eq_getElem h]
   simp [h]
  ·rw [List.getElem?_eq_none (by simpa using h), List.getElem?_eq_none h]
   rfl
 rw [this]

theorem sum_zero {l : List Int} (h : ∀ x, x ∈ l → x ≤ 0) : l.sum ≤ 0 := by
 induction l with
 | nil => simp
 | cons a l ih =>
  rw [List.sum_cons]
  have := h a (by simp)
  have := ih fun x hx => h x (by simp [hx])
  omega

end Go.Am.Srt
