/-
  Several texts, one behind the other.
-/
import Derived.Test.YthkepocejfghcaaGreatScLentoScAct
import Derived.Test.YthkepocejfghcaaGreatAmFntoAmSt2
import Derived.Test.YthkepocejfghcaaGreatAmKilltoAmOut
set_option linter.unusedSimpArgs false
set_option linter.unusedVariables false
/-
  What the small functions of the score and of its specification answer: ranges, lines.
-/
namespace Go.Am.Sc
open Go.Proofs
set_option maxRecDepth 100000
set_option maxHeartbeats 4000000

variable {bs : List D}

theorem c46 (x lo hi : Int) : FSpecR Tryz.prog 46 (.st bs) [I x, I lo, I hi] (B (inR x lo hi)) := by
  refine ku46.R rfl rfl ?_
  unfold u46
  simp only [ups_cons, ups_nil, List.cons_append, List.nil_append]
  repeat' (first
    | ((with_reducible apply nrm); (· simp only [sbe]; rfl))
    | ((with_reducible apply u_ev); (· rfl); (· simp only [sbe]; rfl))
    | ((with_reducible apply u_and); (· rfl))
    | ((with_reducible apply u_jump); (· rfl); (· rfl))
    | (with_reducible refine at_jump ?_)
    | (with_reducible refine over_jump (by decide) ?_)
    | (with_reducible refine kj rfl ?_)
    | ((with_reducible apply u_ite); (· rfl); all_goals (intro hz; (try simp only [sbs] at hz); first | (exact absurd hz (by decide)) | (exfalso; omega) | skip))
    | (with_reducible exact u_ret rfl rfl)
    | ((with_reducible apply u_ret); (· rfl); first | exact rfl | (refine retB ?_) | (refine retI ?_) | (refine retD ?_))
    | ((with_reducible intro hz); (try simp only [sbs] at hz)))

theorem c49 (x lo hi : Int) : FSpecR Tryz.prog 49 (.st bs) [I x, I lo, I hi] (B (inR x lo hi)) := by
  refine ku49.R rfl rfl ?_
  unfold u49
  simp only [ups_cons, ups_nil, List.cons_append, List.nil_append]
  repeat' (first
    | ((with_reducible apply nrm); (· simp only [sbe]; rfl))
    | ((with_reducible apply u_ev); (· rfl); (· simp only [sbe]; rfl))
    | ((with_reducible apply u_and); (· rfl))
    | ((with_reducible apply u_jump); (· rfl); (· rfl))
    | (with_reducible refine at_jump ?_)
    | (with_reducible refine over_jump (by decide) ?_)
    | (with_reducible refine kj rfl ?_)
    | ((with_reducible apply u_ite); (· rfl); all_goals (intro hz; (try simp only [sbs] at hz); first | (exact absurd hz (by decide)) | (exfalso; omega) | skip))
    | (with_reducible exact u_ret rfl rfl)
    | ((with_reducible apply u_ret); (· rfl); first | exact rfl | (refine retB ?_) | (refine retI ?_) | (refine retD ?_))
    | ((with_reducible intro hz); (try simp only [sbs] at hz)))

attribute [local irreducible] inR

def fi {α : Type} (P : α → Bool) (l : List α) : Int := match l.findIdx? P with
  | some i => i
  | none => -1

theorem fi_at {α : Type} {P : α → Bool} {l : List α} {i : Nat} (hi : i < l.length) (hP : P l[i] = true) (hn : ∀ k (h : k < i), P (l[k]'(by omega)) = false) : fi P l = i := by
  have : l.findIdx? P = some i := by
    rw [List.findIdx?_eq_some_iff_getElem]
    exact ⟨hi, hP, fun j hj => by simp [hn j hj]⟩
  simp [fi, this]

theorem fi_no {α : Type} {P : α → Bool} {l : List α} (hn : ∀ a, a ∈ l → P a = false) : fi P l = -1 := by
  have : l.findIdx? P = none := by
    rw [List.findIdx?_eq_none_iff]
    exact hn
  simp [fi, this]

theorem fi_any {α : Type} (P : α → Bool) (l : List α) : decide (fi P l ≥ 0) = l.any P := by
  cases h : l.findIdx? P with
  | none =>
    have h2 := List.findIdx?_eq_none_iff.1 h
    have : l.any P = false := by
      rw [List.any_eq_false]
      intro x hx
      simp [h2 x hx]
    rw [this]
    simp [fi, h]
  | some i =>
    obtain ⟨h1, h2, _⟩ := List.findIdx?_eq_some_iff_getElem.1 h
    have : l.any P = true := List.any_eq_true.2 ⟨_, List.getElem_mem h1, h2⟩
    rw [this]
    simp [fi, h]


theorem c126 {P : Int → Bool} {f : Nat} {us cs : List D} {l : List Int} (hL : l.length ≤ maxLen) (hc : callable Tryz.prog f = true) (hf : ∀ x, x ∈ l → FSpecR Tryz.prog f (.st bs) (us ++ [I x] ++ cs) (B (P x))) : FSpecR Tryz.prog 126 (.st bs) [.lst (l.map I), .fn f us cs] (I (fi P l)) := by
  have hL' : l.length ≤ 9223372036854775807 := hL
  refine ku126.R rfl rfl ?_
  unfold u126
  simp only [ups_cons, ups_nil, List.cons_append, List.nil_append]
  repeat' (first
    | ((with_reducible apply nrm); (· simp only [sbe]; rfl))
    | ((with_reducible apply u_lenL); (· rfl); (· exact lenL_map); (· simp only [sbe]; rfl))
    | ((with_reducible apply u_inc); (· rfl); (· omega); (· simp only [sbe]; rfl))
    | ((with_reducible apply u_add); (· rfl); (· rfl); (· omega); (· simp only [sbe]; rfl))
    | ((with_reducible apply u_ev); (· rfl); (· simp only [sbe]; rfl))
    | (with_reducible refine u_join ?_)
    | ((with_reducible apply u_jump); (· rfl); (· rfl))
    | (with_reducible refine at_jump ?_)
    | (with_reducible refine over_jump (by decide) ?_)
    | (with_reducible refine kj rfl ?_)
    | ((with_reducible apply u_ite); (· rfl); all_goals (intro hz; (try simp only [sbs] at hz); first | (exact absurd hz (by decide)) | (exfalso; omega) | skip))
    | (with_reducible exact u_ret rfl rfl)
    | ((with_reducible apply u_ret); (· rfl); first | exact rfl | (refine retB ?_) | (refine retI ?_) | (refine retD ?_)))
  refine u_range (fun i => [I i]) (fun i => ∀ k (h : k < i) (h2 : k < l.length), P l[k] = false) l.length rfl (fun _ => rfl) (fun k h => absurd h (Nat.not_lt_zero _)) (fun i hi hJ R hR => ?_) (fun hJ R => ?_)
  · have hcal := hf l[i] (List.getElem_mem hi)
    have hli : decide ((i : Int) < (l.length : Int)) = true := by simp; omega
    cases hP : P l[i]
    · rw [hP] at hcal
      repeat' (first
        | ((with_reducible apply nrm); (· simp only [sbe]; rfl))
        | ((with_reducible apply u_iteT); (· rfl); (· first | exact hli))
        | ((with_reducible apply u_iteF); (· rfl); (· first | exact rfl))
        | ((with_reducible apply u_eaddr); (· rfl); (· rfl); (· first | exact eaddr_get hi rfl); (· simp only [sbe]; rfl))
        | ((with_reducible apply u_lenL); (· rfl); (· exact lenL_map); (· simp only [sbe]; rfl))
        | ((with_reducible apply u_inc); (· rfl); (· omega); (· simp only [sbe]; rfl))
        | ((with_reducible apply u_add); (· rfl); (· rfl); (· omega); (· simp only [sbe]; rfl))
        | ((with_reducible apply u_ev); (· rfl); (· simp only [sbe]; rfl))
        | ((with_reducible apply u_callv); (· rfl); (· first | exact hc); (· rfl); (· rfl); (· first | exact hcal); (· rfl); (· simp only [sbe]; rfl))
        | (with_reducible refine u_join ?_)
        | ((with_reducible apply u_jump); (· rfl); (· rfl))
        | (with_reducible refine at_jump ?_)
        | (with_reducible refine over_jump (by decide) ?_)
        | (with_reducible refine kj rfl ?_)
        | ((with_reducible apply u_ite); (· rfl); all_goals (intro hz; (try simp only [sbs] at hz); first | (exact absurd hz (by decide)) | (exfalso; omega) | skip))
        | (with_reducible exact u_ret rfl rfl)
        | ((with_reducible apply u_ret); (· rfl); first | exact rfl | (refine retB ?_) | (refine retI ?_) | (refine retD ?_)))
      refine hR fun k hk h2 => ?_
      rcases Nat.lt_or_ge k i with h3 | h3
      · exact hJ k h3 h2
      · have e : k = i := by omega
        subst e
        exact hP
    · rw [hP] at hcal
      repeat' (first
        | ((with_reducible apply nrm); (· simp only [sbe]; rfl))
        | ((with_reducible apply u_iteT); (· rfl); (· first | exact hli | exact rfl))
        | ((with_reducible apply u_eaddr); (· rfl); (· rfl); (· first | exact eaddr_get hi rfl); (· simp only [sbe]; rfl))
        | ((with_reducible apply u_lenL); (· rfl); (· exact lenL_map); (· simp only [sbe]; rfl))
        | ((with_reducible apply u_inc); (· rfl); (· omega); (· simp only [sbe]; rfl))
        | ((with_reducible apply u_add); (· rfl); (· rfl); (· omega); (· simp only [sbe]; rfl))
        | ((with_reducible apply u_ev); (· rfl); (· simp only [sbe]; rfl))
        | ((with_reducible apply u_callv); (· rfl); (· first | exact hc); (· rfl); (· rfl); (· first | exact hcal); (· rfl); (· simp only [sbe]; rfl))
        | (with_reducible refine u_join ?_)
        | ((with_reducible apply u_jump); (· rfl); (· rfl))
        | (with_reducible refine at_jump ?_)
        | (with_reducible refine over_jump (by decide) ?_)
        | (with_reducible refine kj rfl ?_)
        | ((with_reducible apply u_ite); (· rfl); all_goals (intro hz; (try simp only [sbs] at hz); first | (exact absurd hz (by decide)) | (exfalso; omega) | skip))
        | (with_reducible exact u_ret rfl rfl)
        | ((with_reducible apply u_ret); (· rfl); first | exact rfl | (refine retB ?_) | (refine retI ?_) | (refine retD ?_)))
      exact (fi_at hi hP fun k hk => hJ k hk (by omega)).symm
  · repeat' (first
      | ((with_reducible apply nrm); (· simp only [sbe]; rfl))
      | ((with_reducible apply u_lenL); (· rfl); (· exact lenL_map); (· simp only [sbe]; rfl))
      | ((with_reducible apply u_inc); (· rfl); (· omega); (· simp only [sbe]; rfl))
      | ((with_reducible apply u_add); (· rfl); (· rfl); (· omega); (· simp only [sbe]; rfl))
      | ((with_reducible apply u_ev); (· rfl); (· simp only [sbe]; rfl))
      | (with_reducible refine u_join ?_)
      | ((with_reducible apply u_jump); (· rfl); (· rfl))
      | (with_reducible refine at_jump ?_)
      | (with_reducible refine over_jump (by decide) ?_)
      | (with_reducible refine kj rfl ?_)
      | ((with_reducible apply u_ite); (· rfl); all_goals (intro hz; (try simp only [sbs] at hz); first | (exact absurd hz (by decide)) | (exfalso; omega) | skip))
      | (with_reducible exact u_ret rfl rfl)
      | ((with_reducible apply u_ret); (· rfl); first | exact rfl | (refine retB ?_) | (refine retI ?_) | (refine retD ?_)))
    refine (fi_no fun a ha => ?_).symm
    obtain ⟨k, hk, rfl⟩ := List.mem_iff_getElem.1 ha
    exact hJ k hk hk


theorem c99 {P : Int → Bool} {f : Nat} {us cs : List D} {l : List Int} (hL : l.length ≤ maxLen) (hc : callable Tryz.prog f = true) (hf : ∀ x, x ∈ l → FSpecR Tryz.prog f (.st bs) (us ++ [I x] ++ cs) (B (P x))) : FSpecR Tryz.prog 99 (.st bs) [.lst (l.map I), .fn f us cs] (B (l.any P)) := by
  refine ku99.R rfl rfl ?_
  unfold u99
  simp only [ups_cons, ups_nil, List.cons_append, List.nil_append]
  repeat' (first
    | ((with_reducible apply nrm); (· simp only [sbe]; rfl))
    | ((with_reducible apply u_ev); (· rfl); (· simp only [sbe]; rfl))
    | ((with_reducible apply u_call); (· rfl); (· rfl); (· first | exact c126 hL hc hf); (· rfl); (· simp only [sbe]; rfl))
    | ((with_reducible apply u_jump); (· rfl); (· rfl))
    | (with_reducible refine at_jump ?_)
    | (with_reducible refine over_jump (by decide) ?_)
    | (with_reducible refine kj rfl ?_)
    | ((with_reducible apply u_ite); (· rfl); all_goals (intro hz; (try simp only [sbs] at hz); first | (exact absurd hz (by decide)) | (exfalso; omega) | skip))
    | (with_reducible exact u_ret rfl rfl)
    | ((with_reducible apply u_ret); (· rfl); first | exact rfl | (refine retB ?_) | (refine retI ?_) | (refine retD ?_)))
  exact fi_any P l

theorem c100 (x most : Int) : FSpecR Tryz.prog 100 (.st bs) [I x, .ptr [I most]] (B (!inR x 0 most)) := by
  refine ku100.R rfl rfl ?_
  unfold u100
  simp only [ups_cons, ups_nil, List.cons_append, List.nil_append]
  repeat' (first
    | ((with_reducible apply nrm); (· simp only [sbe]; rfl))
    | ((with_reducible apply u_ev); (· rfl); (· simp only [sbe]; rfl))
    | ((with_reducible apply u_call); (· rfl); (· rfl); (· first | exact c46 _ _ _); (· rfl); (· simp only [sbe]; rfl))
    | ((with_reducible apply u_jump); (· rfl); (· rfl))
    | (with_reducible refine at_jump ?_)
    | (with_reducible refine over_jump (by decide) ?_)
    | (with_reducible refine kj rfl ?_)
    | ((with_reducible apply u_ite); (· rfl); all_goals (intro hz; (try simp only [sbs] at hz); first | (exact absurd hz (by decide)) | (exfalso; omega) | skip))
    | (with_reducible exact u_ret rfl rfl)
    | ((with_reducible apply u_ret); (· rfl); first | exact rfl | (refine retB ?_) | (refine retI ?_) | (refine retD ?_)))

theorem not_any {α : Type} (P : α → Bool) : ∀ l : List α, (!(l.any fun x => !P x)) = l.all P
  | [] => rfl
  | x :: l => by simp [not_any P l]

theorem c47 {l : List Int} {least many most : Int} (hL : l.length ≤ maxLen) : FSpecR Tryz.prog 47 (.st bs) [Is l, I least, I many, I most] (B (allR l least many 0 most)) := by
  have hf : FSpecR Tryz.prog 99 (.st bs) [.lst (l.map I), .fn 100 [] [.ptr [I most]]] (B (l.any fun x => !inR x 0 most)) := c99 (us := []) (cs := [.ptr [I most]]) hL (by kernel_rfl) fun x _ => c100 x most
  refine ku47.R rfl rfl ?_
  unfold u47
  simp only [ups_cons, ups_nil, List.cons_append, List.nil_append]
  repeat' (first
    | ((with_reducible apply nrm); (· simp only [sbe]; rfl))
    | ((with_reducible apply u_lenL); (· rfl); (· exact lenL_map); (· simp only [sbe]; rfl))
    | ((with_reducible apply u_ev); (· rfl); (· simp only [sbe]; rfl))
    | ((with_reducible apply u_call); (· rfl); (· rfl); (· first | exact c46 _ _ _ | exact hf); (· rfl); (· simp only [sbe]; rfl))
    | ((with_reducible apply u_and); (· rfl))
    | ((with_reducible apply u_jump); (· rfl); (· rfl))
    | (with_reducible refine at_jump ?_)
    | (with_reducible refine over_jump (by decide) ?_)
    | (with_reducible refine kj rfl ?_)
    | ((with_reducible apply u_ite); (· rfl); all_goals (intro hz; (try simp only [sbs] at hz); first | (exact absurd hz (by decide)) | (exfalso; omega) | skip))
    | (with_reducible exact u_ret rfl rfl)
    | ((with_reducible apply u_ret); (· rfl); first | exact rfl | (refine retB ?_) | (refine retI ?_) | (refine retD ?_))
    | ((with_reducible intro hz); (try simp only [sbs] at hz)))
  rw [not_any, allR, Bool.and_comm]

theorem c50 {l : List Int} {least most lo hi : Int} (hL : l.length ≤ maxLen) : FSpecR Tryz.prog 50 (.st bs) [Is l, I least, I most, I lo, I hi] (B (allR l least most lo hi)) := by
  have hL' : l.length ≤ 9223372036854775807 := hL
  refine ku50.R rfl rfl ?_
  unfold u50
  simp only [ups_cons, ups_nil, List.cons_append, List.nil_append]
  repeat' (first
    | ((with_reducible apply nrm); (· simp only [sbe]; rfl))
    | ((with_reducible apply u_lenL); (· rfl); (· exact lenL_map); (· simp only [sbe]; rfl))
    | ((with_reducible apply u_inc); (· rfl); (· omega); (· simp only [sbe]; rfl))
    | ((with_reducible apply u_add); (· rfl); (· rfl); (· omega); (· simp only [sbe]; rfl))
    | ((with_reducible apply u_ev); (· rfl); (· simp only [sbe]; rfl))
    | (with_reducible refine u_join ?_)
    | ((with_reducible apply u_jump); (· rfl); (· rfl))
    | (with_reducible refine at_jump ?_)
    | (with_reducible refine over_jump (by decide) ?_)
    | (with_reducible refine kj rfl ?_)
    | ((with_reducible apply u_ite); (· rfl); all_goals (intro hz; (try simp only [sbs] at hz); first | (exact absurd hz (by decide)) | (exfalso; omega) | skip))
    | (with_reducible exact u_ret rfl rfl)
    | ((with_reducible apply u_ret); (· rfl); first | exact rfl | (refine retB ?_) | (refine retI ?_) | (refine retD ?_)))
  refine u_range (fun i => [I i]) (fun i => ∀ k (h : k < i) (h2 : k < l.length), inR l[k] lo hi = true) l.length rfl (fun _ => rfl) (fun k h => absurd h (Nat.not_lt_zero _)) (fun i hj hJ R hR => ?_) (fun hJ R => ?_)
  · have hli : decide ((i : Int) < (l.length : Int)) = true := by simp; omega
    cases hP : inR l[i] lo hi
    · have hcal := c49 (bs := bs) l[i] lo hi
      rw [hP] at hcal
      repeat' (first
        | ((with_reducible apply nrm); (· simp only [sbe]; rfl))
        | ((with_reducible apply u_iteT); (· rfl); (· first | exact hli | exact rfl))
        | ((with_reducible apply u_eaddr); (· rfl); (· rfl); (· first | exact eaddr_get hj rfl); (· simp only [sbe]; rfl))
        | ((with_reducible apply u_lenL); (· rfl); (· exact lenL_map); (· simp only [sbe]; rfl))
        | ((with_reducible apply u_inc); (· rfl); (· omega); (· simp only [sbe]; rfl))
        | ((with_reducible apply u_add); (· rfl); (· rfl); (· omega); (· simp only [sbe]; rfl))
        | ((with_reducible apply u_ev); (· rfl); (· simp only [sbe]; rfl))
        | ((with_reducible apply u_call); (· rfl); (· rfl); (· first | exact hcal); (· rfl); (· simp only [sbe]; rfl))
        | (with_reducible refine u_join ?_)
        | ((with_reducible apply u_jump); (· rfl); (· rfl))
        | (with_reducible refine at_jump ?_)
        | (with_reducible refine over_jump (by decide) ?_)
        | (with_reducible refine kj rfl ?_)
        | ((with_reducible apply u_ite); (· rfl); all_goals (intro hz; (try simp only [sbs] at hz); first | (exact absurd hz (by decide)) | (exfalso; omega) | skip))
        | (with_reducible exact u_ret rfl rfl)
        | ((with_reducible apply u_ret); (· rfl); first | exact rfl | (refine retB ?_) | (refine retI ?_) | (refine retD ?_)))
      rw [allR, Bool.and_eq_false_iff.2 (.inl (List.all_eq_false.2 ⟨_, List.getElem_mem hj, by simp [hP]⟩))]
    · have hcal := c49 (bs := bs) l[i] lo hi
      rw [hP] at hcal
      repeat' (first
        | ((with_reducible apply nrm); (· simp only [sbe]; rfl))
        | ((with_reducible apply u_iteT); (· rfl); (· first | exact hli))
        | ((with_reducible apply u_iteF); (· rfl); (· first | exact rfl))
        | ((with_reducible apply u_eaddr); (· rfl); (· rfl); (· first | exact eaddr_get hj rfl); (· simp only [sbe]; rfl))
        | ((with_reducible apply u_lenL); (· rfl); (· exact lenL_map); (· simp only [sbe]; rfl))
        | ((with_reducible apply u_inc); (· rfl); (· omega); (· simp only [sbe]; rfl))
        | ((with_reducible apply u_add); (· rfl); (· rfl); (· omega); (· simp only [sbe]; rfl))
        | ((with_reducible apply u_ev); (· rfl); (· simp only [sbe]; rfl))
        | ((with_reducible apply u_call); (· rfl); (· rfl); (· first | exact hcal); (· rfl); (· simp only [sbe]; rfl))
        | (with_reducible refine u_join ?_)
        | ((with_reducible apply u_jump); (· rfl); (· rfl))
        | (with_reducible refine at_jump ?_)
        | (with_reducible refine over_jump (by decide) ?_)
        | (with_reducible refine kj rfl ?_)
        | ((with_reducible apply u_ite); (· rfl); all_goals (intro hz; (try simp only [sbs] at hz); first | (exact absurd hz (by decide)) | (exfalso; omega) | skip))
        | (with_reducible exact u_ret rfl rfl)
        | ((with_reducible apply u_ret); (· rfl); first | exact rfl | (refine retB ?_) | (refine retI ?_) | (refine retD ?_)))
      refine hR fun k hk h2 => ?_
      rcases Nat.lt_or_ge k i with h3 | h3
      · exact hJ k h3 h2
      · have e : k = i := by omega
        subst e
        exact hP
  · repeat' (first
      | ((with_reducible apply nrm); (· simp only [sbe]; rfl))
      | ((with_reducible apply u_lenL); (· rfl); (· exact lenL_map); (· simp only [sbe]; rfl))
      | ((with_reducible apply u_inc); (· rfl); (· omega); (· simp only [sbe]; rfl))
      | ((with_reducible apply u_add); (· rfl); (· rfl); (· omega); (· simp only [sbe]; rfl))
      | ((with_reducible apply u_ev); (· rfl); (· simp only [sbe]; rfl))
      | ((with_reducible apply u_call); (· rfl); (· rfl); (· first | exact c49 _ _ _); (· rfl); (· simp only [sbe]; rfl))
      | (with_reducible refine u_join ?_)
      | ((with_reducible apply u_jump); (· rfl); (· rfl))
      | (with_reducible refine at_jump ?_)
      | (with_reducible refine over_jump (by decide) ?_)
      | (with_reducible refine kj rfl ?_)
      | ((with_reducible apply u_ite); (· rfl); all_goals (intro hz; (try simp only [sbs] at hz); first | (exact absurd hz (by decide)) | (exfalso; omega) | skip))
      | (with_reducible exact u_ret rfl rfl)
      | ((with_reducible apply u_ret); (· rfl); first | exact rfl | (refine retB ?_) | (refine retI ?_) | (refine retD ?_)))
    rw [allR, List.all_eq_true.2 fun a ha => ?_, Bool.true_and]
    obtain ⟨k, hk, rfl⟩ := List.mem_iff_getElem.1 ha
    exact hJ k hk hk

theorem c48 (x : Item) (l : Line) : FSpecR Tryz.prog 48 (.st bs) [x.d, l.d] (B (lineOk x l)) := by
  refine ku48.R rfl rfl ?_
  unfold u48
  simp only [ups_cons, ups_nil, List.cons_append, List.nil_append]
  repeat' (first
    | ((with_reducible apply nrm); (· simp only [sbe]; rfl))
    | ((with_reducible apply u_chk); (· rfl))
    | ((with_reducible apply u_ev); (· rfl); (· simp only [sbe]; rfl))
    | ((with_reducible apply u_call); (· rfl); (· rfl); (· first | exact c46 _ _ _); (· rfl); (· simp only [sbe]; rfl))
    | ((with_reducible apply u_or); (· rfl))
    | ((with_reducible apply u_and); (· rfl))
    | (with_reducible refine u_join ?_)
    | ((with_reducible apply u_jump); (· rfl); (· rfl))
    | (with_reducible refine at_jump ?_)
    | (with_reducible refine over_jump (by decide) ?_)
    | (with_reducible refine kj rfl ?_)
    | ((with_reducible apply u_ite); (· rfl); all_goals (intro hz; (try simp only [sbs] at hz); first | (exact absurd hz (by decide)) | (exfalso; omega) | skip))
    | (with_reducible exact u_ret rfl rfl)
    | ((with_reducible apply u_ret); (· rfl); first | exact rfl | (refine retB ?_) | (refine retI ?_) | (refine retD ?_))
    | ((with_reducible intro hz); (try simp only [sbs] at hz)))
  all_goals (unfold lineOk; rw [Bool.eq_iff_iff]; cases hj : l.jump <;> cases h1 : inR l.minute 0 100000 <;> cases h2 : inR l.time 0 36000000 <;> simp_all <;> omega)

theorem c52 (x : Item) (l : Line) : FSpecR Tryz.prog 52 (.st bs) [x.d, l.d] (B (lineOk x l)) := by
  refine ku52.R rfl rfl ?_
  unfold u52
  simp only [ups_cons, ups_nil, List.cons_append, List.nil_append]
  repeat' (first
    | ((with_reducible apply nrm); (· simp only [sbe]; rfl))
    | ((with_reducible apply u_chk); (· rfl))
    | ((with_reducible apply u_ev); (· rfl); (· simp only [sbe]; rfl))
    | ((with_reducible apply u_call); (· rfl); (· rfl); (· first | exact c49 _ _ _); (· rfl); (· simp only [sbe]; rfl))
    | ((with_reducible apply u_or); (· rfl))
    | ((with_reducible apply u_and); (· rfl))
    | ((with_reducible apply u_jump); (· rfl); (· rfl))
    | (with_reducible refine at_jump ?_)
    | (with_reducible refine over_jump (by decide) ?_)
    | (with_reducible refine kj rfl ?_)
    | ((with_reducible apply u_ite); (· rfl); all_goals (intro hz; (try simp only [sbs] at hz); first | (exact absurd hz (by decide)) | (exfalso; omega) | skip))
    | (with_reducible exact u_ret rfl rfl)
    | ((with_reducible apply u_ret); (· rfl); first | exact rfl | (refine retB ?_) | (refine retI ?_) | (refine retD ?_))
    | ((with_reducible intro hz); (try simp only [sbs] at hz)))
  all_goals (unfold lineOk; rw [Bool.eq_iff_iff]; cases hj : l.jump <;> cases h1 : inR l.minute 0 100000 <;> cases h2 : inR l.time 0 36000000 <;> simp_all <;> omega)

theorem c51 {p : Plan} (hn : 0 < p.n) (hN : p.n ≤ 4000000000000000000) (hl : -9000000000000000000 ≤ (p.it (p.n - 1)).leg ∧ (p.it (p.n - 1)).leg ≤ 9000000000000000000) : FSpecR Tryz.prog 51 (.st bs) [p.d] (I p.legs) := by
  have hea : D.eaddr 4 (.lst (p.items.map Item.d)) (I ((p.n : Int) - 1)) = some (.ptr (p.it (p.n - 1)).d.cells) := by
    rw [show (p.n : Int) - 1 = ((p.n - 1 : Nat) : Int) by omega]
    exact eaddr_lst (Plan.it_getElem (by omega)) rfl
  have hln : D.lenL (.lst (p.items.map Item.d)) = some (I p.n) := lenL_map
  refine ku51.R rfl rfl ?_
  unfold u51
  simp only [ups_cons, ups_nil, List.cons_append, List.nil_append]
  repeat' (first
    | ((with_reducible apply nrm); (· simp only [sbe]; rfl))
    | ((with_reducible apply u_chk); (· rfl))
    | ((with_reducible apply u_eaddr); (· rfl); (· rfl); (· first | exact hea); (· simp only [sbe]; rfl))
    | ((with_reducible apply u_lenL); (· rfl); (· first | exact hln); (· simp only [sbe]; rfl))
    | ((with_reducible apply u_lenL); (· rfl); (· exact lenL_map); (· simp only [sbe]; rfl))
    | ((with_reducible apply u_inc); (· rfl); (· omega); (· simp only [sbe]; rfl))
    | ((with_reducible apply u_add); (· rfl); (· rfl); (· omega); (· simp only [sbe]; rfl))
    | ((with_reducible apply u_sub); (· rfl); (· rfl); (· omega); (· simp only [sbe]; rfl))
    | ((with_reducible apply u_ev); (· rfl); (· simp only [sbe]; rfl))
    | ((with_reducible apply u_jump); (· rfl); (· rfl))
    | (with_reducible refine at_jump ?_)
    | (with_reducible refine over_jump (by decide) ?_)
    | (with_reducible refine kj rfl ?_)
    | ((with_reducible apply u_ite); (· rfl); all_goals (intro hz; (try simp only [sbs] at hz); first | (exact absurd hz (by decide)) | (exfalso; omega) | skip))
    | (with_reducible exact u_ret rfl rfl)
    | ((with_reducible apply u_ret); (· rfl); first | exact rfl | (refine retB ?_) | (refine retI ?_) | (refine retD ?_)))

end Go.Am.Sc

/-
  What Check answers, and what the specification says of a plan.
-/
namespace Go.Am.Sc
open Go.Proofs
set_option maxRecDepth 100000
set_option maxHeartbeats 4000000

attribute [local irreducible] inR allR

variable {bs : List D} {p : Plan}

theorem ea_it {i : Nat} (h : i < p.n) : D.eaddr 4 (.lst (p.items.map Item.d)) (In i) = some (.ptr (p.it i).d.cells) := eaddr_lst (Plan.it_getElem h) rfl
theorem ln_it : D.lenL (.lst (p.items.map Item.d)) = some (I p.n) := lenL_map

theorem sub_leg {a b : Int} (ha : i64 a) (hb : 0 ≤ b ∧ b ≤ 5) : ∃ w, D.bin .sub .int (I a) (I b) = some (I w) ∧ inR w 0 1 = inR (a - b) 0 1 := by
  refine ⟨IntKind.i64.wrap (a - b), rfl, ?_⟩
  obtain ⟨h1, h2⟩ := ha
  by_cases h : -9223372036854775808 ≤ a - b
  · rw [wrap64 ⟨h, by omega⟩]
  · have e : IntKind.i64.wrap (a - b) = a - b + 18446744073709551616 := by
      have e : (a - b) % 2 ^ 64 = a - b + 18446744073709551616 := by omega
      simp only [IntKind.wrap, IntKind.bits, IntKind.signed, Bool.true_and, decide_eq_true_eq, e]
      rw [if_neg (by omega)]
    rw [e, inR_n (by omega), inR_n (by omega)]


theorem c18 (hp : p.Ok) : FSpecR Tryz.prog 18 (.st bs) [p.d] (I (if p.ok = true then 0 else 2)) := by
  have hL := hp.itemsL
  have h47a : FSpecR Tryz.prog 47 (.st bs) [.lst [I p.late, I p.early, I p.missed], I 3, I 3, I 36000000] (B (inR p.late 0 36000000 && (inR p.early 0 36000000 && inR p.missed 0 36000000))) := by
    rw [← allR3]
    exact c47 (l := [_, _, _]) (show 3 ≤ maxLen by decide)
  have h47b : FSpecR Tryz.prog 47 (.st bs) [.lst [I p.maxLate, I p.legLate], I 2, I 2, I 1440] (B (inR p.maxLate 0 1440 && inR p.legLate 0 1440)) := by
    rw [← allR2]
    exact c47 (l := [_, _]) (show 2 ≤ maxLen by decide)
  have hmi : p.items.length = p.n := rfl
  refine ku18.R rfl rfl ?_
  unfold u18
  simp only [ups_cons, ups_nil, List.cons_append, List.nil_append]
  cases hn : inR p.n 1 100
  · have hc := c46 (bs := bs) p.n 1 100
    rw [hn] at hc
    repeat' (first
      | ((with_reducible apply nrm); (· simp only [sbe]; rfl))
      | ((with_reducible apply u_orT); (· rfl); (· first | exact rfl))
      | ((with_reducible apply u_iteT); (· rfl); (· first | exact rfl))
      | ((with_reducible apply u_chk); (· rfl))
      | ((with_reducible apply u_lenL); (· rfl); (· first | exact ln_it); (· simp only [sbe]; rfl))
      | ((with_reducible apply u_lenL); (· rfl); (· exact lenL_map); (· simp only [sbe]; rfl))
      | ((with_reducible apply u_inc); (· rfl); (· omega); (· simp only [sbe]; rfl))
      | ((with_reducible apply u_pred); (· rfl); (· omega); (· simp only [sbe]; rfl))
      | ((with_reducible apply u_add); (· rfl); (· rfl); (· omega); (· simp only [sbe]; rfl))
      | ((with_reducible apply u_sub); (· rfl); (· rfl); (· omega); (· simp only [sbe]; rfl))
      | ((with_reducible apply u_ev); (· rfl); (· simp only [sbe]; rfl))
      | ((with_reducible apply u_call); (· rfl); (· rfl); (· first | exact hc | exact c46 _ _ _); (· rfl); (· simp only [sbe]; rfl))
      | ((with_reducible apply u_or); (· rfl))
      | ((with_reducible apply u_and); (· rfl))
      | (with_reducible refine u_join ?_)
      | ((with_reducible apply u_jump); (· rfl); (· rfl))
      | (with_reducible refine at_jump ?_)
      | (with_reducible refine over_jump (by decide) ?_)
      | (with_reducible refine kj rfl ?_)
      | ((with_reducible apply u_ite); (· rfl); all_goals (intro hz; (try simp only [sbs] at hz); first | (exact absurd hz (by decide)) | (exfalso; omega) | skip))
      | (with_reducible exact u_ret rfl rfl)
      | ((with_reducible apply u_ret); (· rfl); first | exact rfl | (refine retB ?_) | (refine retI ?_) | (refine retD ?_))
      | ((with_reducible intro hz); (try simp only [sbs] at hz)))
    rw [if_neg (by simp [Plan.ok, Plan.headOk, hn])]
  have hn2 := inR_t hn
  have hc := c46 (bs := bs) p.n 1 100
  rw [hn] at hc
  have hea0 : D.eaddr 4 (.lst (p.items.map Item.d)) (I 0) = some (.ptr (p.it 0).d.cells) := ea_it (i := 0) (by omega)
  repeat' (first
    | ((with_reducible apply nrm); (· simp only [sbe]; rfl))
    | ((with_reducible apply u_chk); (· rfl))
    | ((with_reducible apply u_eaddr); (· rfl); (· rfl); (· first | exact hea0); (· simp only [sbe]; rfl))
    | ((with_reducible apply u_lenL); (· rfl); (· first | exact ln_it); (· simp only [sbe]; rfl))
    | ((with_reducible apply u_lenL); (· rfl); (· exact lenL_map); (· simp only [sbe]; rfl))
    | ((with_reducible apply u_inc); (· rfl); (· omega); (· simp only [sbe]; rfl))
    | ((with_reducible apply u_pred); (· rfl); (· omega); (· simp only [sbe]; rfl))
    | ((with_reducible apply u_add); (· rfl); (· rfl); (· omega); (· simp only [sbe]; rfl))
    | ((with_reducible apply u_sub); (· rfl); (· rfl); (· omega); (· simp only [sbe]; rfl))
    | ((with_reducible apply u_ev); (· rfl); (· simp only [sbe]; rfl))
    | ((with_reducible apply u_call); (· rfl); (· rfl); (· first | exact hc | exact c46 _ _ _); (· rfl); (· simp only [sbe]; rfl))
    | ((with_reducible apply u_or); (· rfl))
    | ((with_reducible apply u_and); (· rfl))
    | (with_reducible refine u_join ?_)
    | ((with_reducible apply u_jump); (· rfl); (· rfl))
    | (with_reducible refine at_jump ?_)
    | (with_reducible refine over_jump (by decide) ?_)
    | (with_reducible refine kj rfl ?_)
    | ((with_reducible apply u_ite); (· rfl); all_goals (intro hz; (try simp only [sbs] at hz); first | (exact absurd hz (by decide)) | (exfalso; omega) | skip))
    | (with_reducible exact u_ret rfl rfl)
    | ((with_reducible apply u_ret); (· rfl); first | exact rfl | (refine retB ?_) | (refine retI ?_) | (refine retD ?_))
    | ((with_reducible intro hz); (try simp only [sbs] at hz)))
  · rw [if_neg]
    rcases hz with hz | hz <;> simp [Plan.ok, Plan.headOk, hz]
  have hJ0 : (p.it 0).leg = 0 := by simp_all
  have hcl : inR p.classes 1 20 = true := by simp_all
  have hhead : p.headOk = true := by simp [Plan.headOk, hn, hcl, hJ0]
  refine u_range (fun i => [In i]) (fun i => ∀ k, k < i → p.itOk k = true) p.n rfl (fun _ => rfl) (fun k h => absurd h (Nat.not_lt_zero _)) (fun i hi hJ R hR => ?_) (fun hJ R => ?_)
  · have hli : decide ((i : Int) < (p.n : Int)) = true := by simp; omega
    have hi64 : (p.it i).Ok := hp.items _ (List.mem_of_getElem? (Plan.it_getElem hi))
    by_cases h0 : i = 0
    · have hz0 : decide ((i : Int) > 0) = false := by simp [h0]
      repeat' (first
        | ((with_reducible apply nrm); (· simp only [sbe]; rfl))
        | ((with_reducible apply u_andF); (· rfl); (· first | exact hz0))
        | ((with_reducible apply u_iteT); (· rfl); (· first | exact hli))
        | ((with_reducible apply u_chk); (· rfl))
        | ((with_reducible apply u_eaddr); (· rfl); (· rfl); (· first | exact ea_it hi); (· simp only [sbe]; rfl))
        | ((with_reducible apply u_lenL); (· rfl); (· first | exact ln_it); (· simp only [sbe]; rfl))
        | ((with_reducible apply u_lenL); (· rfl); (· exact lenL_map); (· simp only [sbe]; rfl))
        | ((with_reducible apply u_inc); (· rfl); (· omega); (· simp only [sbe]; rfl))
        | ((with_reducible apply u_pred); (· rfl); (· omega); (· simp only [sbe]; rfl))
        | ((with_reducible apply u_add); (· rfl); (· rfl); (· omega); (· simp only [sbe]; rfl))
        | ((with_reducible apply u_sub); (· rfl); (· rfl); (· omega); (· simp only [sbe]; rfl))
        | ((with_reducible apply u_ev); (· rfl); (· simp only [sbe]; rfl))
        | ((with_reducible apply u_call); (· rfl); (· rfl); (· first | exact c46 _ _ _); (· rfl); (· simp only [sbe]; rfl))
        | ((with_reducible apply u_or); (· rfl))
        | ((with_reducible apply u_and); (· rfl))
        | (with_reducible refine u_join ?_)
        | ((with_reducible apply u_jump); (· rfl); (· rfl))
        | (with_reducible refine at_jump ?_)
        | (with_reducible refine over_jump (by decide) ?_)
        | (with_reducible refine kj rfl ?_)
        | ((with_reducible apply u_ite); (· rfl); all_goals (intro hz; (try simp only [sbs] at hz); first | (exact absurd hz (by decide)) | (exfalso; omega) | skip))
        | (with_reducible exact u_ret rfl rfl)
        | ((with_reducible apply u_ret); (· rfl); first | exact rfl | (refine retB ?_) | (refine retI ?_) | (refine retD ?_))
        | ((with_reducible intro hz); (try simp only [sbs] at hz)))
      all_goals first | (refine hR fun k hk => ?_; rcases Nat.lt_or_ge k i with h3 | h3; exact hJ k h3; rw [show k = i by omega]) | (rw [if_neg]; rw [Bool.not_eq_true]; apply Plan.ok_f2; refine Plan.not_items hi ?_)
      all_goals (cases h2 : inR (p.it i).target 0 1440 <;> cases h3 : (p.it i).free <;> simp_all [Plan.itOk] <;> omega)
    · have hz0 : 1 ≤ i := by omega
      have hlg := Plan.leg_of hJ0 (i := i - 1) fun k hk => hJ k (by omega)
      obtain ⟨w, hw, he⟩ := sub_leg hi64.leg hlg
      have hcw := c46 (bs := bs) w 0 1
      rw [he] at hcw
      repeat' (first
        | ((with_reducible apply nrm); (· simp only [sbe]; rfl))
        | ((with_reducible apply u_iteT); (· rfl); (· first | exact hli))
        | ((with_reducible apply u_chk); (· rfl))
        | ((with_reducible apply u_eaddr); (· rfl); (· rfl); (· first | exact ea_it hi | exact ea_it (by omega)); (· simp only [sbe]; rfl))
        | ((with_reducible apply u_lenL); (· rfl); (· first | exact ln_it); (· simp only [sbe]; rfl))
        | ((with_reducible apply u_bin); (· rfl); (· rfl); (· first | exact hw); (· simp only [sbe]; rfl))
        | ((with_reducible apply u_lenL); (· rfl); (· exact lenL_map); (· simp only [sbe]; rfl))
        | ((with_reducible apply u_inc); (· rfl); (· omega); (· simp only [sbe]; rfl))
        | ((with_reducible apply u_pred); (· rfl); (· omega); (· simp only [sbe]; rfl))
        | ((with_reducible apply u_add); (· rfl); (· rfl); (· omega); (· simp only [sbe]; rfl))
        | ((with_reducible apply u_sub); (· rfl); (· rfl); (· omega); (· simp only [sbe]; rfl))
        | ((with_reducible apply u_ev); (· rfl); (· simp only [sbe]; rfl))
        | ((with_reducible apply u_call); (· rfl); (· rfl); (· first | exact hcw | exact c46 _ _ _); (· rfl); (· simp only [sbe]; rfl))
        | ((with_reducible apply u_or); (· rfl))
        | ((with_reducible apply u_and); (· rfl))
        | (with_reducible refine u_join ?_)
        | ((with_reducible apply u_jump); (· rfl); (· rfl))
        | (with_reducible refine at_jump ?_)
        | (with_reducible refine over_jump (by decide) ?_)
        | (with_reducible refine kj rfl ?_)
        | ((with_reducible apply u_ite); (· rfl); all_goals (intro hz; (try simp only [sbs] at hz); first | (exact absurd hz (by decide)) | (exfalso; omega) | skip))
        | (with_reducible exact u_ret rfl rfl)
        | ((with_reducible apply u_ret); (· rfl); first | exact rfl | (refine retB ?_) | (refine retI ?_) | (refine retD ?_))
        | ((with_reducible intro hz); (try simp only [sbs] at hz)))
      all_goals first | (refine hR fun k hk => ?_; rcases Nat.lt_or_ge k i with h3 | h3; exact hJ k h3; rw [show k = i by omega]) | (rw [if_neg]; rw [Bool.not_eq_true]; apply Plan.ok_f2; refine Plan.not_items hi ?_)
      all_goals (cases h1 : inR ((p.it i).leg - (p.it (i - 1)).leg) 0 1 <;> cases h2 : inR (p.it i).target 0 1440 <;> cases h3 : (p.it i).free <;> simp_all [Plan.itOk] <;> omega)
  · have hI : p.itemsOk = true := Plan.items_of fun i hi => hJ i hi
    have hlf : decide ((p.n : Int) < (p.n : Int)) = false := by simp
    have hj := c47 (bs := bs) (l := p.jumps) (least := 1) (many := 10) (most := 36000000) hp.jumps.2
    have hpt := c47 (bs := bs) (l := p.points) (least := 0) (many := 60) (most := 1000) hp.points.2
    have hex := c47 (bs := bs) (l := p.extra) (least := 0) (many := 60) (most := 1000) hp.extra.2
    cases hpw : inR p.power (-1) (p.n - 1)
    · have hcp := c46 (bs := bs) p.power (-1) (p.n - 1)
      rw [hpw] at hcp
      repeat' (first
        | ((with_reducible apply nrm); (· simp only [sbe]; rfl))
        | ((with_reducible apply u_orT); (· rfl); (· first | exact rfl))
        | ((with_reducible apply u_iteT); (· rfl); (· first | exact rfl))
        | ((with_reducible apply u_iteF); (· rfl); (· first | exact hlf))
        | ((with_reducible apply u_chk); (· rfl))
        | ((with_reducible apply u_lenL); (· rfl); (· first | exact ln_it); (· simp only [sbe]; rfl))
        | ((with_reducible apply u_lenL); (· rfl); (· exact lenL_map); (· simp only [sbe]; rfl))
        | ((with_reducible apply u_inc); (· rfl); (· omega); (· simp only [sbe]; rfl))
        | ((with_reducible apply u_add); (· rfl); (· rfl); (· omega); (· simp only [sbe]; rfl))
        | ((with_reducible apply u_sub); (· rfl); (· rfl); (· omega); (· simp only [sbe]; rfl))
        | ((with_reducible apply u_ev); (· rfl); (· simp only [sbe]; rfl))
        | ((with_reducible apply u_call); (· rfl); (· rfl); (· first | exact hcp | exact c46 _ _ _ | exact h47a | exact h47b | exact hj | exact hpt | exact hex); (· rfl); (· simp only [sbe]; rfl))
        | ((with_reducible apply u_or); (· rfl))
        | ((with_reducible apply u_and); (· rfl))
        | (with_reducible refine u_join ?_)
        | ((with_reducible apply u_jump); (· rfl); (· rfl))
        | (with_reducible refine at_jump ?_)
        | (with_reducible refine over_jump (by decide) ?_)
        | (with_reducible refine kj rfl ?_)
        | ((with_reducible apply u_ite); (· rfl); all_goals (intro hz; (try simp only [sbs] at hz); first | (exact absurd hz (by decide)) | (exfalso; omega) | skip))
        | (with_reducible exact u_ret rfl rfl)
        | ((with_reducible apply u_ret); (· rfl); first | exact rfl | (refine retB ?_) | (refine retI ?_) | (refine retD ?_))
        | ((with_reducible intro hz); (try simp only [sbs] at hz)))
      all_goals simp [Plan.ok, Plan.moreOk, hpw]
    have hpw2 := inR_t hpw
    have hcp := c46 (bs := bs) p.power (-1) (p.n - 1)
    rw [hpw] at hcp
    by_cases hneg : p.power < 0
    · have hpf : decide (p.power ≥ 0) = false := by simp; omega
      repeat' (first
        | ((with_reducible apply nrm); (· simp only [sbe]; rfl))
        | ((with_reducible apply u_andF); (· rfl); (· first | exact hpf))
        | ((with_reducible apply u_iteF); (· rfl); (· first | exact hlf))
        | ((with_reducible apply u_chk); (· rfl))
        | ((with_reducible apply u_lenL); (· rfl); (· first | exact ln_it); (· simp only [sbe]; rfl))
        | ((with_reducible apply u_lenL); (· rfl); (· exact lenL_map); (· simp only [sbe]; rfl))
        | ((with_reducible apply u_inc); (· rfl); (· omega); (· simp only [sbe]; rfl))
        | ((with_reducible apply u_add); (· rfl); (· rfl); (· omega); (· simp only [sbe]; rfl))
        | ((with_reducible apply u_sub); (· rfl); (· rfl); (· omega); (· simp only [sbe]; rfl))
        | ((with_reducible apply u_ev); (· rfl); (· simp only [sbe]; rfl))
        | ((with_reducible apply u_call); (· rfl); (· rfl); (· first | exact hcp | exact c46 _ _ _ | exact h47a | exact h47b | exact hj | exact hpt | exact hex); (· rfl); (· simp only [sbe]; rfl))
        | ((with_reducible apply u_or); (· rfl))
        | ((with_reducible apply u_and); (· rfl))
        | (with_reducible refine u_join ?_)
        | ((with_reducible apply u_jump); (· rfl); (· rfl))
        | (with_reducible refine at_jump ?_)
        | (with_reducible refine over_jump (by decide) ?_)
        | (with_reducible refine kj rfl ?_)
        | ((with_reducible apply u_ite); (· rfl); all_goals (intro hz; (try simp only [sbs] at hz); first | (exact absurd hz (by decide)) | (exfalso; omega) | skip))
        | (with_reducible exact u_ret rfl rfl)
        | ((with_reducible apply u_ret); (· rfl); first | exact rfl | (refine retB ?_) | (refine retI ?_) | (refine retD ?_))
        | ((with_reducible intro hz); (try simp only [sbs] at hz)))
      all_goals first
        | (rw [if_neg]; intro h; simp only [Plan.ok, Plan.rulesOk, Plan.moreOk, Plan.ptsOk, Bool.and_eq_true, Bool.or_eq_true, decide_eq_true_eq, beq_iff_eq] at h; simp_all <;> omega)
        | (rw [if_pos]; simp_all [Plan.ok, Plan.rulesOk, Plan.moreOk, Plan.ptsOk]; done)
    · have hpe : D.eaddr 4 (.lst (p.items.map Item.d)) (I p.power) = some (.ptr (p.it p.power.toNat).d.cells) := by
        have := ea_it (p := p) (i := p.power.toNat) (by omega)
        rwa [In, show (p.power.toNat : Int) = p.power by omega] at this
      repeat' (first
        | ((with_reducible apply nrm); (· simp only [sbe]; rfl))
        | ((with_reducible apply u_iteF); (· rfl); (· first | exact hlf))
        | ((with_reducible apply u_chk); (· rfl))
        | ((with_reducible apply u_eaddr); (· rfl); (· rfl); (· first | exact hpe); (· simp only [sbe]; rfl))
        | ((with_reducible apply u_lenL); (· rfl); (· first | exact ln_it); (· simp only [sbe]; rfl))
        | ((with_reducible apply u_lenL); (· rfl); (· exact lenL_map); (· simp only [sbe]; rfl))
        | ((with_reducible apply u_inc); (· rfl); (· omega); (· simp only [sbe]; rfl))
        | ((with_reducible apply u_add); (· rfl); (· rfl); (· omega); (· simp only [sbe]; rfl))
        | ((with_reducible apply u_sub); (· rfl); (· rfl); (· omega); (· simp only [sbe]; rfl))
        | ((with_reducible apply u_ev); (· rfl); (· simp only [sbe]; rfl))
        | ((with_reducible apply u_call); (· rfl); (· rfl); (· first | exact hcp | exact c46 _ _ _ | exact h47a | exact h47b | exact hj | exact hpt | exact hex); (· rfl); (· simp only [sbe]; rfl))
        | ((with_reducible apply u_or); (· rfl))
        | ((with_reducible apply u_and); (· rfl))
        | (with_reducible refine u_join ?_)
        | ((with_reducible apply u_jump); (· rfl); (· rfl))
        | (with_reducible refine at_jump ?_)
        | (with_reducible refine over_jump (by decide) ?_)
        | (with_reducible refine kj rfl ?_)
        | ((with_reducible apply u_ite); (· rfl); all_goals (intro hz; (try simp only [sbs] at hz); first | (exact absurd hz (by decide)) | (exfalso; omega) | skip))
        | (with_reducible exact u_ret rfl rfl)
        | ((with_reducible apply u_ret); (· rfl); first | exact rfl | (refine retB ?_) | (refine retI ?_) | (refine retD ?_))
        | ((with_reducible intro hz); (try simp only [sbs] at hz)))
      all_goals first
        | (rw [if_neg]; intro h; simp only [Plan.ok, Plan.rulesOk, Plan.moreOk, Plan.ptsOk, Bool.and_eq_true, Bool.or_eq_true, decide_eq_true_eq, beq_iff_eq] at h; simp_all <;> omega)
        | (rw [if_pos]; simp_all [Plan.ok, Plan.rulesOk, Plan.moreOk, Plan.ptsOk]; done)

end Go.Am.Sc

/-
  What the specification says of a plan.
-/
namespace Go.Am.Sc
open Go.Proofs
set_option maxRecDepth 100000
set_option maxHeartbeats 4000000

attribute [local irreducible] inR allR

variable {bs : List D} {p : Plan}



theorem c20 (hp : p.Ok) : FSpecR Tryz.prog 20 (.st bs) [p.d] (B p.ok) := by
  have hL := hp.itemsL
  have hmi : p.items.length = p.n := rfl
  refine ku20.R rfl rfl ?_
  unfold u20
  simp only [ups_cons, ups_nil, List.cons_append, List.nil_append]
  cases hn : inR p.n 1 100
  · have hc := c49 (bs := bs) p.n 1 100
    rw [hn] at hc
    repeat' (first
      | ((with_reducible apply nrm); (· simp only [sbe]; rfl))
      | ((with_reducible apply u_orT); (· rfl); (· first | exact rfl))
      | ((with_reducible apply u_iteT); (· rfl); (· first | exact rfl))
      | ((with_reducible apply u_chk); (· rfl))
      | ((with_reducible apply u_lenL); (· rfl); (· first | exact ln_it); (· simp only [sbe]; rfl))
      | ((with_reducible apply u_lenL); (· rfl); (· exact lenL_map); (· simp only [sbe]; rfl))
      | ((with_reducible apply u_inc); (· rfl); (· omega); (· simp only [sbe]; rfl))
      | ((with_reducible apply u_pred); (· rfl); (· omega); (· simp only [sbe]; rfl))
      | ((with_reducible apply u_add); (· rfl); (· rfl); (· omega); (· simp only [sbe]; rfl))
      | ((with_reducible apply u_sub); (· rfl); (· rfl); (· omega); (· simp only [sbe]; rfl))
      | ((with_reducible apply u_ev); (· rfl); (· simp only [sbe]; rfl))
      | ((with_reducible apply u_call); (· rfl); (· rfl); (· first | exact hc | exact c49 _ _ _); (· rfl); (· simp only [sbe]; rfl))
      | ((with_reducible apply u_or); (· rfl))
      | ((with_reducible apply u_and); (· rfl))
      | (with_reducible refine u_join ?_)
      | ((with_reducible apply u_jump); (· rfl); (· rfl))
      | (with_reducible refine at_jump ?_)
      | (with_reducible refine over_jump (by decide) ?_)
      | (with_reducible refine kj rfl ?_)
      | ((with_reducible apply u_ite); (· rfl); all_goals (intro hz; (try simp only [sbs] at hz); first | (exact absurd hz (by decide)) | (exfalso; omega) | skip))
      | (with_reducible exact u_ret rfl rfl)
      | ((with_reducible apply u_ret); (· rfl); first | exact rfl | (refine retB ?_) | (refine retI ?_) | (refine retD ?_))
      | ((with_reducible intro hz); (try simp only [sbs] at hz)))
    simp [Plan.ok, Plan.headOk, hn]
  have hn2 := inR_t hn
  have hc := c49 (bs := bs) p.n 1 100
  rw [hn] at hc
  have hea0 : D.eaddr 4 (.lst (p.items.map Item.d)) (I 0) = some (.ptr (p.it 0).d.cells) := ea_it (i := 0) (by omega)
  repeat' (first
    | ((with_reducible apply nrm); (· simp only [sbe]; rfl))
    | ((with_reducible apply u_chk); (· rfl))
    | ((with_reducible apply u_eaddr); (· rfl); (· rfl); (· first | exact hea0); (· simp only [sbe]; rfl))
    | ((with_reducible apply u_lenL); (· rfl); (· first | exact ln_it); (· simp only [sbe]; rfl))
    | ((with_reducible apply u_lenL); (· rfl); (· exact lenL_map); (· simp only [sbe]; rfl))
    | ((with_reducible apply u_inc); (· rfl); (· omega); (· simp only [sbe]; rfl))
    | ((with_reducible apply u_pred); (· rfl); (· omega); (· simp only [sbe]; rfl))
    | ((with_reducible apply u_add); (· rfl); (· rfl); (· omega); (· simp only [sbe]; rfl))
    | ((with_reducible apply u_sub); (· rfl); (· rfl); (· omega); (· simp only [sbe]; rfl))
    | ((with_reducible apply u_ev); (· rfl); (· simp only [sbe]; rfl))
    | ((with_reducible apply u_call); (· rfl); (· rfl); (· first | exact hc | exact c49 _ _ _); (· rfl); (· simp only [sbe]; rfl))
    | ((with_reducible apply u_or); (· rfl))
    | ((with_reducible apply u_and); (· rfl))
    | (with_reducible refine u_join ?_)
    | ((with_reducible apply u_jump); (· rfl); (· rfl))
    | (with_reducible refine at_jump ?_)
    | (with_reducible refine over_jump (by decide) ?_)
    | (with_reducible refine kj rfl ?_)
    | ((with_reducible apply u_ite); (· rfl); all_goals (intro hz; (try simp only [sbs] at hz); first | (exact absurd hz (by decide)) | (exfalso; omega) | skip))
    | (with_reducible exact u_ret rfl rfl)
    | ((with_reducible apply u_ret); (· rfl); first | exact rfl | (refine retB ?_) | (refine retI ?_) | (refine retD ?_))
    | ((with_reducible intro hz); (try simp only [sbs] at hz)))
  · rcases hz with hz | hz <;> simp [Plan.ok, Plan.headOk, hz]
  have hJ0 : (p.it 0).leg = 0 := by simp_all
  have hcl : inR p.classes 1 20 = true := by simp_all
  have hhead : p.headOk = true := by simp [Plan.headOk, hn, hcl, hJ0]
  refine u_range (fun i => [In i]) (fun i => ∀ k, k < i → p.itOk k = true) p.n rfl (fun _ => rfl) (fun k h => absurd h (Nat.not_lt_zero _)) (fun i hi hJ R hR => ?_) (fun hJ R => ?_)
  · have hli : decide ((i : Int) < (p.n : Int)) = true := by simp; omega
    have hi64 : (p.it i).Ok := hp.items _ (List.mem_of_getElem? (Plan.it_getElem hi))
    by_cases h0 : i = 0
    · have hz0 : decide ((i : Int) > 0) = false := by simp [h0]
      repeat' (first
        | ((with_reducible apply nrm); (· simp only [sbe]; rfl))
        | ((with_reducible apply u_andF); (· rfl); (· first | exact hz0))
        | ((with_reducible apply u_iteT); (· rfl); (· first | exact hli))
        | ((with_reducible apply u_chk); (· rfl))
        | ((with_reducible apply u_eaddr); (· rfl); (· rfl); (· first | exact ea_it hi); (· simp only [sbe]; rfl))
        | ((with_reducible apply u_lenL); (· rfl); (· first | exact ln_it); (· simp only [sbe]; rfl))
        | ((with_reducible apply u_lenL); (· rfl); (· exact lenL_map); (· simp only [sbe]; rfl))
        | ((with_reducible apply u_inc); (· rfl); (· omega); (· simp only [sbe]; rfl))
        | ((with_reducible apply u_pred); (· rfl); (· omega); (· simp only [sbe]; rfl))
        | ((with_reducible apply u_add); (· rfl); (· rfl); (· omega); (· simp only [sbe]; rfl))
        | ((with_reducible apply u_sub); (· rfl); (· rfl); (· omega); (· simp only [sbe]; rfl))
        | ((with_reducible apply u_ev); (· rfl); (· simp only [sbe]; rfl))
        | ((with_reducible apply u_call); (· rfl); (· rfl); (· first | exact c49 _ _ _); (· rfl); (· simp only [sbe]; rfl))
        | ((with_reducible apply u_or); (· rfl))
        | ((with_reducible apply u_and); (· rfl))
        | (with_reducible refine u_join ?_)
        | ((with_reducible apply u_jump); (· rfl); (· rfl))
        | (with_reducible refine at_jump ?_)
        | (with_reducible refine over_jump (by decide) ?_)
        | (with_reducible refine kj rfl ?_)
        | ((with_reducible apply u_ite); (· rfl); all_goals (intro hz; (try simp only [sbs] at hz); first | (exact absurd hz (by decide)) | (exfalso; omega) | skip))
        | (with_reducible exact u_ret rfl rfl)
        | ((with_reducible apply u_ret); (· rfl); first | exact rfl | (refine retB ?_) | (refine retI ?_) | (refine retD ?_))
        | ((with_reducible intro hz); (try simp only [sbs] at hz)))
      all_goals first | (refine hR fun k hk => ?_; rcases Nat.lt_or_ge k i with h3 | h3; exact hJ k h3; rw [show k = i by omega]) | (apply Eq.symm; apply Plan.ok_f2; refine Plan.not_items hi ?_)
      all_goals (by_cases k1 : (p.it i).kind = 1 <;> by_cases k2 : (p.it i).kind = 2 <;> by_cases k3 : (p.it i).target = 0 <;> cases h2 : inR (p.it i).target 0 1440 <;> cases h3 : (p.it i).free <;> simp_all [Plan.itOk] <;> omega)
    · have hz0 : 1 ≤ i := by omega
      have hlg := Plan.leg_of hJ0 (i := i - 1) fun k hk => hJ k (by omega)
      obtain ⟨w, hw, he⟩ := sub_leg hi64.leg hlg
      have hcw := c49 (bs := bs) w 0 1
      rw [he] at hcw
      repeat' (first
        | ((with_reducible apply nrm); (· simp only [sbe]; rfl))
        | ((with_reducible apply u_iteT); (· rfl); (· first | exact hli))
        | ((with_reducible apply u_chk); (· rfl))
        | ((with_reducible apply u_eaddr); (· rfl); (· rfl); (· first | exact ea_it hi | exact ea_it (by omega)); (· simp only [sbe]; rfl))
        | ((with_reducible apply u_lenL); (· rfl); (· first | exact ln_it); (· simp only [sbe]; rfl))
        | ((with_reducible apply u_bin); (· rfl); (· rfl); (· first | exact hw); (· simp only [sbe]; rfl))
        | ((with_reducible apply u_lenL); (· rfl); (· exact lenL_map); (· simp only [sbe]; rfl))
        | ((with_reducible apply u_inc); (· rfl); (· omega); (· simp only [sbe]; rfl))
        | ((with_reducible apply u_pred); (· rfl); (· omega); (· simp only [sbe]; rfl))
        | ((with_reducible apply u_add); (· rfl); (· rfl); (· omega); (· simp only [sbe]; rfl))
        | ((with_reducible apply u_sub); (· rfl); (· rfl); (· omega); (· simp only [sbe]; rfl))
        | ((with_reducible apply u_ev); (· rfl); (· simp only [sbe]; rfl))
        | ((with_reducible apply u_call); (· rfl); (· rfl); (· first | exact hcw | exact c49 _ _ _); (· rfl); (· simp only [sbe]; rfl))
        | ((with_reducible apply u_or); (· rfl))
        | ((with_reducible apply u_and); (· rfl))
        | (with_reducible refine u_join ?_)
        | ((with_reducible apply u_jump); (· rfl); (· rfl))
        | (with_reducible refine at_jump ?_)
        | (with_reducible refine over_jump (by decide) ?_)
        | (with_reducible refine kj rfl ?_)
        | ((with_reducible apply u_ite); (· rfl); all_goals (intro hz; (try simp only [sbs] at hz); first | (exact absurd hz (by decide)) | (exfalso; omega) | skip))
        | (with_reducible exact u_ret rfl rfl)
        | ((with_reducible apply u_ret); (· rfl); first | exact rfl | (refine retB ?_) | (refine retI ?_) | (refine retD ?_))
        | ((with_reducible intro hz); (try simp only [sbs] at hz)))
      all_goals first | (refine hR fun k hk => ?_; rcases Nat.lt_or_ge k i with h3 | h3; exact hJ k h3; rw [show k = i by omega]) | (apply Eq.symm; apply Plan.ok_f2; refine Plan.not_items hi ?_)
      all_goals (by_cases k1 : (p.it i).kind = 1 <;> by_cases k2 : (p.it i).kind = 2 <;> by_cases k3 : (p.it i).target = 0 <;> cases h1 : inR ((p.it i).leg - (p.it (i - 1)).leg) 0 1 <;> cases h2 : inR (p.it i).target 0 1440 <;> cases h3 : (p.it i).free <;> simp_all [Plan.itOk] <;> omega)
  · have hI : p.itemsOk = true := Plan.items_of fun i hi => hJ i hi
    have hlf : decide ((p.n : Int) < (p.n : Int)) = false := by simp
    have hj := c50 (bs := bs) (l := p.jumps) (least := 1) (most := 10) (lo := 0) (hi := 36000000) hp.jumps.2
    have hpt := c50 (bs := bs) (l := p.points) (least := 0) (most := 60) (lo := 0) (hi := 1000) hp.points.2
    have hex := c50 (bs := bs) (l := p.extra) (least := 0) (most := 60) (lo := 0) (hi := 1000) hp.extra.2
    cases hpw : inR p.power (-1) (p.n - 1)
    · have hcp := c49 (bs := bs) p.power (-1) (p.n - 1)
      rw [hpw] at hcp
      repeat' (first
        | ((with_reducible apply nrm); (· simp only [sbe]; rfl))
        | ((with_reducible apply u_orT); (· rfl); (· first | exact rfl | exact Bool.or_true _))
        | ((with_reducible apply u_iteT); (· rfl); (· first | exact rfl | exact Bool.or_true _))
        | ((with_reducible apply u_iteF); (· rfl); (· first | exact hlf))
        | ((with_reducible apply u_chk); (· rfl))
        | ((with_reducible apply u_lenL); (· rfl); (· first | exact ln_it); (· simp only [sbe]; rfl))
        | ((with_reducible apply u_lenL); (· rfl); (· exact lenL_map); (· simp only [sbe]; rfl))
        | ((with_reducible apply u_inc); (· rfl); (· omega); (· simp only [sbe]; rfl))
        | ((with_reducible apply u_add); (· rfl); (· rfl); (· omega); (· simp only [sbe]; rfl))
        | ((with_reducible apply u_sub); (· rfl); (· rfl); (· omega); (· simp only [sbe]; rfl))
        | ((with_reducible apply u_ev); (· rfl); (· simp only [sbe]; rfl))
        | ((with_reducible apply u_call); (· rfl); (· rfl); (· first | exact hcp | exact c49 _ _ _ | exact hj | exact hpt | exact hex); (· rfl); (· simp only [sbe]; rfl))
        | ((with_reducible apply u_or); (· rfl))
        | ((with_reducible apply u_and); (· rfl))
        | (with_reducible refine u_join ?_)
        | ((with_reducible apply u_jump); (· rfl); (· rfl))
        | (with_reducible refine at_jump ?_)
        | (with_reducible refine over_jump (by decide) ?_)
        | (with_reducible refine kj rfl ?_)
        | ((with_reducible apply u_ite); (· rfl); all_goals (intro hz; (try simp only [sbs] at hz); first | (exact absurd hz (by decide)) | (exfalso; omega) | skip))
        | (with_reducible exact u_ret rfl rfl)
        | ((with_reducible apply u_ret); (· rfl); first | exact rfl | (refine retB ?_) | (refine retI ?_) | (refine retD ?_))
        | ((with_reducible intro hz); (try simp only [sbs] at hz)))
      all_goals simp [Plan.ok, Plan.moreOk, hpw]
    have hpw2 := inR_t hpw
    have hcp := c49 (bs := bs) p.power (-1) (p.n - 1)
    rw [hpw] at hcp
    by_cases hneg : p.power < 0
    · have hpf : decide (p.power ≥ 0) = false := by simp; omega
      repeat' (first
        | ((with_reducible apply nrm); (· simp only [sbe]; rfl))
        | ((with_reducible apply u_andF); (· rfl); (· first | exact hpf))
        | ((with_reducible apply u_iteF); (· rfl); (· first | exact hlf))
        | ((with_reducible apply u_chk); (· rfl))
        | ((with_reducible apply u_lenL); (· rfl); (· first | exact ln_it); (· simp only [sbe]; rfl))
        | ((with_reducible apply u_lenL); (· rfl); (· exact lenL_map); (· simp only [sbe]; rfl))
        | ((with_reducible apply u_inc); (· rfl); (· omega); (· simp only [sbe]; rfl))
        | ((with_reducible apply u_add); (· rfl); (· rfl); (· omega); (· simp only [sbe]; rfl))
        | ((with_reducible apply u_sub); (· rfl); (· rfl); (· omega); (· simp only [sbe]; rfl))
        | ((with_reducible apply u_ev); (· rfl); (· simp only [sbe]; rfl))
        | ((with_reducible apply u_call); (· rfl); (· rfl); (· first | exact hcp | exact c49 _ _ _ | exact hj | exact hpt | exact hex); (· rfl); (· simp only [sbe]; rfl))
        | ((with_reducible apply u_or); (· rfl))
        | ((with_reducible apply u_and); (· rfl))
        | (with_reducible refine u_join ?_)
        | ((with_reducible apply u_jump); (· rfl); (· rfl))
        | (with_reducible refine at_jump ?_)
        | (with_reducible refine over_jump (by decide) ?_)
        | (with_reducible refine kj rfl ?_)
        | ((with_reducible apply u_ite); (· rfl); all_goals (intro hz; (try simp only [sbs] at hz); first | (exact absurd hz (by decide)) | (exfalso; omega) | skip))
        | (with_reducible exact u_ret rfl rfl)
        | ((with_reducible apply u_ret); (· rfl); first | exact rfl | (refine retB ?_) | (refine retI ?_) | (refine retD ?_))
        | ((with_reducible intro hz); (try simp only [sbs] at hz)))
      all_goals rw [show p.ok = (p.rulesOk && (p.moreOk && p.ptsOk)) by simp [Plan.ok, hhead, hI]]
      all_goals first
        | (symm; rw [Bool.eq_false_iff]; intro h; simp only [Plan.rulesOk, Plan.moreOk, Plan.ptsOk, Bool.and_eq_true, Bool.or_eq_true, decide_eq_true_eq, beq_iff_eq] at h; simp_all <;> omega)
        | (have hr : p.rulesOk = true := by simp_all [Plan.rulesOk]
           have hm : p.moreOk = true := by simp_all [Plan.moreOk]
           rw [hr, hm]; rfl)
    · have hpe : D.eaddr 4 (.lst (p.items.map Item.d)) (I p.power) = some (.ptr (p.it p.power.toNat).d.cells) := by
        have := ea_it (p := p) (i := p.power.toNat) (by omega)
        rwa [In, show (p.power.toNat : Int) = p.power by omega] at this
      repeat' (first
        | ((with_reducible apply nrm); (· simp only [sbe]; rfl))
        | ((with_reducible apply u_iteF); (· rfl); (· first | exact hlf))
        | ((with_reducible apply u_chk); (· rfl))
        | ((with_reducible apply u_eaddr); (· rfl); (· rfl); (· first | exact hpe); (· simp only [sbe]; rfl))
        | ((with_reducible apply u_lenL); (· rfl); (· first | exact ln_it); (· simp only [sbe]; rfl))
        | ((with_reducible apply u_lenL); (· rfl); (· exact lenL_map); (· simp only [sbe]; rfl))
        | ((with_reducible apply u_inc); (· rfl); (· omega); (· simp only [sbe]; rfl))
        | ((with_reducible apply u_add); (· rfl); (· rfl); (· omega); (· simp only [sbe]; rfl))
        | ((with_reducible apply u_sub); (· rfl); (· rfl); (· omega); (· simp only [sbe]; rfl))
        | ((with_reducible apply u_ev); (· rfl); (· simp only [sbe]; rfl))
        | ((with_reducible apply u_call); (· rfl); (· rfl); (· first | exact hcp | exact c49 _ _ _ | exact hj | exact hpt | exact hex); (· rfl); (· simp only [sbe]; rfl))
        | ((with_reducible apply u_or); (· rfl))
        | ((with_reducible apply u_and); (· rfl))
        | (with_reducible refine u_join ?_)
        | ((with_reducible apply u_jump); (· rfl); (· rfl))
        | (with_reducible refine at_jump ?_)
        | (with_reducible refine over_jump (by decide) ?_)
        | (with_reducible refine kj rfl ?_)
        | ((with_reducible apply u_ite); (· rfl); all_goals (intro hz; (try simp only [sbs] at hz); first | (exact absurd hz (by decide)) | (exfalso; omega) | skip))
        | (with_reducible exact u_ret rfl rfl)
        | ((with_reducible apply u_ret); (· rfl); first | exact rfl | (refine retB ?_) | (refine retI ?_) | (refine retD ?_))
        | ((with_reducible intro hz); (try simp only [sbs] at hz)))
      all_goals rw [show p.ok = (p.rulesOk && (p.moreOk && p.ptsOk)) by simp [Plan.ok, hhead, hI]]
      all_goals first
        | (symm; rw [Bool.eq_false_iff]; intro h; simp only [Plan.rulesOk, Plan.moreOk, Plan.ptsOk, Bool.and_eq_true, Bool.or_eq_true, decide_eq_true_eq, beq_iff_eq] at h; simp_all <;> omega)
        | (have hr : p.rulesOk = true := by simp_all [Plan.rulesOk]
           have hm : p.moreOk = true := by simp_all [Plan.moreOk]
           rw [hr, hm]; rfl)

end Go.Am.Sc

/-
  What CheckCard answers, and what the specification says of a card.
-/
namespace Go.Am.Sc
open Go.Proofs
set_option maxRecDepth 100000
set_option maxHeartbeats 4000000

attribute [local irreducible] inR allR lineOk

variable {bs : List D} {p : Plan} {c : Card}

theorem ea_ln {i : Nat} (h : i < c.lines.length) : D.eaddr 4 (.lst (c.lines.map Line.d)) (In i) = some (.ptr (c.ln i).d.cells) := eaddr_lst (Card.ln_getElem h) rfl
theorem ea_last (h : 1 ≤ p.n) : D.eaddr 4 (.lst (p.items.map Item.d)) (I ((p.n : Int) - 1)) = some (.ptr (p.it (p.n - 1)).d.cells) := by
  rw [show (p.n : Int) - 1 = ((p.n - 1 : Nat) : Int) by omega]
  exact ea_it (by omega)


theorem c19 (hp : p.Ok) (hc : c.Ok) : FSpecR Tryz.prog 19 (.st bs) [p.d, c.d] (I (if (p.ok && cardOk p c) = true then 0 else 2)) := by
  have hmi : p.items.length = p.n := rfl
  have h18 := c18 (bs := bs) hp
  refine ku19.R rfl rfl ?_
  unfold u19
  simp only [ups_cons, ups_nil, List.cons_append, List.nil_append]
  cases hok : p.ok
  · rw [hok] at h18
    replace h18 : FSpecR Tryz.prog 18 (.st bs) [p.d] (I 2) := h18
    repeat' (first
      | ((with_reducible apply nrm); (· simp only [sbe]; rfl))
      | ((with_reducible apply u_orT); (· rfl); (· first | exact rfl))
      | ((with_reducible apply u_iteT); (· rfl); (· first | exact rfl))
      | ((with_reducible apply u_chk); (· rfl))
      | ((with_reducible apply u_lenL); (· rfl); (· exact lenL_map); (· simp only [sbe]; rfl))
      | ((with_reducible apply u_inc); (· rfl); (· omega); (· simp only [sbe]; rfl))
      | ((with_reducible apply u_pred); (· rfl); (· omega); (· simp only [sbe]; rfl))
      | ((with_reducible apply u_add); (· rfl); (· rfl); (· omega); (· simp only [sbe]; rfl))
      | ((with_reducible apply u_sub); (· rfl); (· rfl); (· omega); (· simp only [sbe]; rfl))
      | ((with_reducible apply u_ev); (· rfl); (· simp only [sbe]; rfl))
      | ((with_reducible apply u_call); (· rfl); (· rfl); (· first | exact h18); (· rfl); (· simp only [sbe]; rfl))
      | ((with_reducible apply u_or); (· rfl))
      | ((with_reducible apply u_and); (· rfl))
      | (with_reducible refine u_join ?_)
      | ((with_reducible apply u_jump); (· rfl); (· rfl))
      | (with_reducible refine at_jump ?_)
      | (with_reducible refine over_jump (by decide) ?_)
      | (with_reducible refine kj rfl ?_)
      | ((with_reducible apply u_ite); (· rfl); all_goals (intro hz; (try simp only [sbs] at hz); first | (exact absurd hz (by decide)) | (exfalso; omega) | skip))
      | (with_reducible exact u_ret rfl rfl)
      | ((with_reducible apply u_ret); (· rfl); first | exact rfl | (refine retB ?_) | (refine retI ?_) | (refine retD ?_))
      | ((with_reducible intro hz); (try simp only [sbs] at hz)))
    all_goals (try exact rfl)
  rw [hok] at h18
  replace h18 : FSpecR Tryz.prog 18 (.st bs) [p.d] (I 0) := h18
  have hh := Plan.ok_head hok
  have hl := Plan.ok_leg hok (i := p.n - 1) (by omega)
  have hst := c47 (bs := bs) (l := c.starts) (least := 1) (many := 6) (most := 100000) hc.starts.2
  repeat' (first
    | ((with_reducible apply nrm); (· simp only [sbe]; rfl))
    | ((with_reducible apply u_chk); (· rfl))
    | ((with_reducible apply u_eaddr); (· rfl); (· rfl); (· first | exact ea_last hh.1.1); (· simp only [sbe]; rfl))
    | ((with_reducible apply u_lenL); (· rfl); (· first | exact ln_it); (· simp only [sbe]; rfl))
    | ((with_reducible apply u_lenL); (· rfl); (· exact lenL_map); (· simp only [sbe]; rfl))
    | ((with_reducible apply u_inc); (· rfl); (· omega); (· simp only [sbe]; rfl))
    | ((with_reducible apply u_add); (· rfl); (· rfl); (· omega); (· simp only [sbe]; rfl))
    | ((with_reducible apply u_sub); (· rfl); (· rfl); (· omega); (· simp only [sbe]; rfl))
    | ((with_reducible apply u_ev); (· rfl); (· simp only [sbe]; rfl))
    | ((with_reducible apply u_call); (· rfl); (· rfl); (· first | exact h18 | exact c46 _ _ _ | exact hst); (· rfl); (· simp only [sbe]; rfl))
    | ((with_reducible apply u_or); (· rfl))
    | ((with_reducible apply u_and); (· rfl))
    | (with_reducible refine u_join ?_)
    | ((with_reducible apply u_jump); (· rfl); (· rfl))
    | (with_reducible refine at_jump ?_)
    | (with_reducible refine over_jump (by decide) ?_)
    | (with_reducible refine kj rfl ?_)
    | ((with_reducible apply u_ite); (· rfl); all_goals (intro hz; (try simp only [sbs] at hz); first | (exact absurd hz (by decide)) | (exfalso; omega) | skip))
    | (with_reducible exact u_ret rfl rfl)
    | ((with_reducible apply u_ret); (· rfl); first | exact rfl | (refine retB ?_) | (refine retI ?_) | (refine retD ?_))
    | ((with_reducible intro hz); (try simp only [sbs] at hz)))
  · rw [if_neg]
    intro h
    simp only [Bool.true_and, cardOk, Bool.and_eq_true, beq_iff_eq] at h
    obtain ⟨h1, h2, h3, h4⟩ := h
    by_cases hs : (c.starts.length : Int) = p.legs
    · rw [allR_eq hs (Plan.ok_legs hok)] at h2
      unfold Plan.legs at hs
      simp_all
    · rw [allR_ne hs] at h2
      cases h2
  · have hlen : c.lines.length = p.n := by
      have : (c.lines.length : Int) = p.n := by simp_all
      omega
    have hcls : inR c.cls 0 (p.classes - 1) = true := by simp_all
    have hsl : (c.starts.length : Int) = p.legs := by unfold Plan.legs; simp_all
    have hst2 : allR c.starts p.legs p.legs 0 100000 = true := by
      rw [allR_eq hsl (Plan.ok_legs hok)]
      simp_all
    clear hz
    refine u_range (fun i => [In i]) (fun i => ∀ k, k < i → lnOk p c k = true) c.lines.length rfl (fun _ => rfl) (fun k h => absurd h (Nat.not_lt_zero _)) (fun i hi hJ R hR => ?_) (fun hJ R => ?_)
    · have hli : decide ((i : Int) < (c.lines.length : Int)) = true := by simp; omega
      have hip : i < p.n := by omega
      have hic : i < c.lines.length := by omega
      by_cases h0 : i = 0
      · have hz0 : decide ((i : Int) > 0) = false := by simp [h0]
        repeat' (first
          | ((with_reducible apply nrm); (· simp only [sbe]; rfl))
          | ((with_reducible apply u_andF); (· rfl); (· first | exact hz0))
          | ((with_reducible apply u_iteT); (· rfl); (· first | exact hli))
          | ((with_reducible apply u_chk); (· rfl))
          | ((with_reducible apply u_eaddr); (· rfl); (· rfl); (· first | exact ea_it hip | exact ea_ln hic); (· simp only [sbe]; rfl))
          | ((with_reducible apply u_lenL); (· rfl); (· first | exact ln_it); (· simp only [sbe]; rfl))
          | ((with_reducible apply u_lenL); (· rfl); (· exact lenL_map); (· simp only [sbe]; rfl))
          | ((with_reducible apply u_inc); (· rfl); (· omega); (· simp only [sbe]; rfl))
          | ((with_reducible apply u_pred); (· rfl); (· omega); (· simp only [sbe]; rfl))
          | ((with_reducible apply u_add); (· rfl); (· rfl); (· omega); (· simp only [sbe]; rfl))
          | ((with_reducible apply u_sub); (· rfl); (· rfl); (· omega); (· simp only [sbe]; rfl))
          | ((with_reducible apply u_ev); (· rfl); (· simp only [sbe]; rfl))
          | ((with_reducible apply u_call); (· rfl); (· rfl); (· first | exact c48 _ _); (· rfl); (· simp only [sbe]; rfl))
          | ((with_reducible apply u_or); (· rfl))
          | ((with_reducible apply u_and); (· rfl))
          | (with_reducible refine u_join ?_)
          | ((with_reducible apply u_jump); (· rfl); (· rfl))
          | (with_reducible refine at_jump ?_)
          | (with_reducible refine over_jump (by decide) ?_)
          | (with_reducible refine kj rfl ?_)
          | ((with_reducible apply u_ite); (· rfl); all_goals (intro hz; (try simp only [sbs] at hz); first | (exact absurd hz (by decide)) | (exfalso; omega) | skip))
          | (with_reducible exact u_ret rfl rfl)
          | ((with_reducible apply u_ret); (· rfl); first | exact rfl | (refine retB ?_) | (refine retI ?_) | (refine retD ?_))
          | ((with_reducible intro hz); (try simp only [sbs] at hz)))
        all_goals (try exact (false : Bool))
        all_goals first | (refine hR fun k hk => ?_; rcases Nat.lt_or_ge k i with h3 | h3; exact hJ k h3; rw [show k = i by omega]) | (rw [if_neg]; rw [Bool.true_and, Bool.not_eq_true]; refine not_lines hip ?_)
        all_goals (cases h1 : lineOk (p.it i) (c.ln i) <;> simp_all [lnOk] <;> omega)
      · have hz0 : 1 ≤ i := by omega
        have hzt : decide ((i : Int) > 0) = true := by simp; omega
        repeat' (first
          | ((with_reducible apply nrm); (· simp only [sbe]; rfl))
          | ((with_reducible apply u_iteT); (· rfl); (· first | exact hli))
          | ((with_reducible apply u_chk); (· rfl))
          | ((with_reducible apply u_eaddr); (· rfl); (· rfl); (· first | exact ea_it hip | exact ea_ln hic | exact ea_it (Nat.lt_of_le_of_lt (Nat.sub_le i 1) hip) | exact ea_ln (Nat.lt_of_le_of_lt (Nat.sub_le i 1) hic)); (· simp only [sbe]; rfl))
          | ((with_reducible apply u_lenL); (· rfl); (· first | exact ln_it); (· simp only [sbe]; rfl))
          | ((with_reducible apply u_lenL); (· rfl); (· exact lenL_map); (· simp only [sbe]; rfl))
          | ((with_reducible apply u_inc); (· rfl); (· omega); (· simp only [sbe]; rfl))
          | ((with_reducible apply u_pred); (· rfl); (· omega); (· simp only [sbe]; rfl))
          | ((with_reducible apply u_add); (· rfl); (· rfl); (· omega); (· simp only [sbe]; rfl))
          | ((with_reducible apply u_sub); (· rfl); (· rfl); (· omega); (· simp only [sbe]; rfl))
          | ((with_reducible apply u_ev); (· rfl); (· simp only [sbe]; rfl))
          | ((with_reducible apply u_call); (· rfl); (· rfl); (· first | exact c48 _ _); (· rfl); (· simp only [sbe]; rfl))
          | ((with_reducible apply u_or); (· rfl))
          | ((with_reducible apply u_and); (· rfl))
          | (with_reducible refine u_join ?_)
          | ((with_reducible apply u_jump); (· rfl); (· rfl))
          | (with_reducible refine at_jump ?_)
          | (with_reducible refine over_jump (by decide) ?_)
          | (with_reducible refine kj rfl ?_)
          | ((with_reducible apply u_ite); (· rfl); all_goals (intro hz; (try simp only [sbs] at hz); first | (exact absurd hz (by decide)) | (exfalso; omega) | skip))
          | (with_reducible exact u_ret rfl rfl)
          | ((with_reducible apply u_ret); (· rfl); first | exact rfl | (refine retB ?_) | (refine retI ?_) | (refine retD ?_))
          | ((with_reducible intro hz); (try simp only [sbs] at hz)))
        all_goals (try exact (false : Bool))
        all_goals first | (refine hR fun k hk => ?_; rcases Nat.lt_or_ge k i with h3 | h3; exact hJ k h3; rw [show k = i by omega]) | (rw [if_neg]; rw [Bool.true_and, Bool.not_eq_true]; refine not_lines hip ?_)
        all_goals (by_cases k1 : (c.ln (i - 1)).mark = 2 <;> by_cases k2 : (p.it (i - 1)).leg = (p.it i).leg <;> by_cases k3 : (c.ln i).mark = 2 <;> cases h1 : lineOk (p.it i) (c.ln i) <;> simp_all [lnOk] <;> omega)
    · have hlf : decide ((c.lines.length : Int) < (c.lines.length : Int)) = false := by simp
      repeat' (first
        | ((with_reducible apply nrm); (· simp only [sbe]; rfl))
        | ((with_reducible apply u_iteF); (· rfl); (· first | exact hlf))
        | ((with_reducible apply u_chk); (· rfl))
        | ((with_reducible apply u_lenL); (· rfl); (· exact lenL_map); (· simp only [sbe]; rfl))
        | ((with_reducible apply u_inc); (· rfl); (· omega); (· simp only [sbe]; rfl))
        | ((with_reducible apply u_pred); (· rfl); (· omega); (· simp only [sbe]; rfl))
        | ((with_reducible apply u_add); (· rfl); (· rfl); (· omega); (· simp only [sbe]; rfl))
        | ((with_reducible apply u_sub); (· rfl); (· rfl); (· omega); (· simp only [sbe]; rfl))
        | ((with_reducible apply u_ev); (· rfl); (· simp only [sbe]; rfl))
        | ((with_reducible apply u_or); (· rfl))
        | ((with_reducible apply u_and); (· rfl))
        | (with_reducible refine u_join ?_)
        | ((with_reducible apply u_jump); (· rfl); (· rfl))
        | (with_reducible refine at_jump ?_)
        | (with_reducible refine over_jump (by decide) ?_)
        | (with_reducible refine kj rfl ?_)
        | ((with_reducible apply u_ite); (· rfl); all_goals (intro hz; (try simp only [sbs] at hz); first | (exact absurd hz (by decide)) | (exfalso; omega) | skip))
        | (with_reducible exact u_ret rfl rfl)
        | ((with_reducible apply u_ret); (· rfl); first | exact rfl | (refine retB ?_) | (refine retI ?_) | (refine retD ?_))
        | ((with_reducible intro hz); (try simp only [sbs] at hz)))
      rw [if_pos]
      simp [cardOk, hcls, hst2, hlen, lines_of fun i hi => hJ i (by omega)]

theorem c21 (hp : p.Ok) (hc : c.Ok) (hok : p.ok = true) : FSpecR Tryz.prog 21 (.st bs) [p.d, c.d] (B (cardOk p c)) := by
  have hmi : p.items.length = p.n := rfl
  have hh := Plan.ok_head hok
  have hl := Plan.ok_leg hok (i := p.n - 1) (by omega)
  have hst := c50 (bs := bs) (l := c.starts) (least := p.legs) (most := p.legs) (lo := 0) (hi := 100000) hc.starts.2
  have h51 := c51 (bs := bs) (p := p) (by omega) (by omega) (by omega)
  refine ku21.R rfl rfl ?_
  unfold u21
  simp only [ups_cons, ups_nil, List.cons_append, List.nil_append]
  repeat' (first
    | ((with_reducible apply nrm); (· simp only [sbe]; rfl))
    | ((with_reducible apply u_chk); (· rfl))
    | ((with_reducible apply u_lenL); (· rfl); (· first | exact ln_it); (· simp only [sbe]; rfl))
    | ((with_reducible apply u_lenL); (· rfl); (· exact lenL_map); (· simp only [sbe]; rfl))
    | ((with_reducible apply u_inc); (· rfl); (· omega); (· simp only [sbe]; rfl))
    | ((with_reducible apply u_add); (· rfl); (· rfl); (· omega); (· simp only [sbe]; rfl))
    | ((with_reducible apply u_sub); (· rfl); (· rfl); (· omega); (· simp only [sbe]; rfl))
    | ((with_reducible apply u_ev); (· rfl); (· simp only [sbe]; rfl))
    | ((with_reducible apply u_call); (· rfl); (· rfl); (· first | exact c49 _ _ _ | exact hst | exact h51); (· rfl); (· simp only [sbe]; rfl))
    | ((with_reducible apply u_or); (· rfl))
    | ((with_reducible apply u_and); (· rfl))
    | (with_reducible refine u_join ?_)
    | ((with_reducible apply u_jump); (· rfl); (· rfl))
    | (with_reducible refine at_jump ?_)
    | (with_reducible refine over_jump (by decide) ?_)
    | (with_reducible refine kj rfl ?_)
    | ((with_reducible apply u_ite); (· rfl); all_goals (intro hz; (try simp only [sbs] at hz); first | (exact absurd hz (by decide)) | (exfalso; omega) | skip))
    | (with_reducible exact u_ret rfl rfl)
    | ((with_reducible apply u_ret); (· rfl); first | exact rfl | (refine retB ?_) | (refine retI ?_) | (refine retD ?_))
    | ((with_reducible intro hz); (try simp only [sbs] at hz)))
  · symm
    rw [Bool.eq_false_iff]
    intro h
    simp only [cardOk, Bool.and_eq_true, beq_iff_eq] at h
    simp_all
  · have hlen : c.lines.length = p.n := by
      have : (c.lines.length : Int) = p.n := by simp_all
      omega
    have hcls : inR c.cls 0 (p.classes - 1) = true := by simp_all
    have hst2 : allR c.starts p.legs p.legs 0 100000 = true := by simp_all
    clear hz
    refine u_range (fun i => [In i]) (fun i => ∀ k, k < i → lnOk p c k = true) p.n rfl (fun _ => rfl) (fun k h => absurd h (Nat.not_lt_zero _)) (fun i hi hJ R hR => ?_) (fun hJ R => ?_)
    · have hli : decide ((i : Int) < (p.n : Int)) = true := by simp; omega
      have hip : i < p.n := by omega
      have hic : i < c.lines.length := by omega
      by_cases h0 : i = 0
      · have hz0 : decide ((i : Int) > 0) = false := by simp [h0]
        repeat' (first
          | ((with_reducible apply nrm); (· simp only [sbe]; rfl))
          | ((with_reducible apply u_andF); (· rfl); (· first | exact hz0))
          | ((with_reducible apply u_iteT); (· rfl); (· first | exact hli))
          | ((with_reducible apply u_chk); (· rfl))
          | ((with_reducible apply u_eaddr); (· rfl); (· rfl); (· first | exact ea_it hip | exact ea_ln hic); (· simp only [sbe]; rfl))
          | ((with_reducible apply u_lenL); (· rfl); (· first | exact ln_it); (· simp only [sbe]; rfl))
          | ((with_reducible apply u_lenL); (· rfl); (· exact lenL_map); (· simp only [sbe]; rfl))
          | ((with_reducible apply u_inc); (· rfl); (· omega); (· simp only [sbe]; rfl))
          | ((with_reducible apply u_pred); (· rfl); (· omega); (· simp only [sbe]; rfl))
          | ((with_reducible apply u_add); (· rfl); (· rfl); (· omega); (· simp only [sbe]; rfl))
          | ((with_reducible apply u_sub); (· rfl); (· rfl); (· omega); (· simp only [sbe]; rfl))
          | ((with_reducible apply u_ev); (· rfl); (· simp only [sbe]; rfl))
          | ((with_reducible apply u_call); (· rfl); (· rfl); (· first | exact c52 _ _); (· rfl); (· simp only [sbe]; rfl))
          | ((with_reducible apply u_or); (· rfl))
          | ((with_reducible apply u_and); (· rfl))
          | (with_reducible refine u_join ?_)
          | ((with_reducible apply u_jump); (· rfl); (· rfl))
          | (with_reducible refine at_jump ?_)
          | (with_reducible refine over_jump (by decide) ?_)
          | (with_reducible refine kj rfl ?_)
          | ((with_reducible apply u_ite); (· rfl); all_goals (intro hz; (try simp only [sbs] at hz); first | (exact absurd hz (by decide)) | (exfalso; omega) | skip))
          | (with_reducible exact u_ret rfl rfl)
          | ((with_reducible apply u_ret); (· rfl); first | exact rfl | (refine retB ?_) | (refine retI ?_) | (refine retD ?_))
          | ((with_reducible intro hz); (try simp only [sbs] at hz)))
        all_goals (try exact (false : Bool))
        all_goals first | (refine hR fun k hk => ?_; rcases Nat.lt_or_ge k i with h3 | h3; exact hJ k h3; rw [show k = i by omega]) | (symm; refine not_lines hip ?_)
        all_goals (cases h1 : lineOk (p.it i) (c.ln i) <;> simp_all [lnOk] <;> omega)
      · have hz0 : 1 ≤ i := by omega
        have hzt : decide ((i : Int) > 0) = true := by simp; omega
        repeat' (first
          | ((with_reducible apply nrm); (· simp only [sbe]; rfl))
          | ((with_reducible apply u_iteT); (· rfl); (· first | exact hli))
          | ((with_reducible apply u_chk); (· rfl))
          | ((with_reducible apply u_eaddr); (· rfl); (· rfl); (· first | exact ea_it hip | exact ea_ln hic | exact ea_it (Nat.lt_of_le_of_lt (Nat.sub_le i 1) hip) | exact ea_ln (Nat.lt_of_le_of_lt (Nat.sub_le i 1) hic)); (· simp only [sbe]; rfl))
          | ((with_reducible apply u_lenL); (· rfl); (· first | exact ln_it); (· simp only [sbe]; rfl))
          | ((with_reducible apply u_lenL); (· rfl); (· exact lenL_map); (· simp only [sbe]; rfl))
          | ((with_reducible apply u_inc); (· rfl); (· omega); (· simp only [sbe]; rfl))
          | ((with_reducible apply u_pred); (· rfl); (· omega); (· simp only [sbe]; rfl))
          | ((with_reducible apply u_add); (· rfl); (· rfl); (· omega); (· simp only [sbe]; rfl))
          | ((with_reducible apply u_sub); (· rfl); (· rfl); (· omega); (· simp only [sbe]; rfl))
          | ((with_reducible apply u_ev); (· rfl); (· simp only [sbe]; rfl))
          | ((with_reducible apply u_call); (· rfl); (· rfl); (· first | exact c52 _ _); (· rfl); (· simp only [sbe]; rfl))
          | ((with_reducible apply u_or); (· rfl))
          | ((with_reducible apply u_and); (· rfl))
          | (with_reducible refine u_join ?_)
          | ((with_reducible apply u_jump); (· rfl); (· rfl))
          | (with_reducible refine at_jump ?_)
          | (with_reducible refine over_jump (by decide) ?_)
          | (with_reducible refine kj rfl ?_)
          | ((with_reducible apply u_ite); (· rfl); all_goals (intro hz; (try simp only [sbs] at hz); first | (exact absurd hz (by decide)) | (exfalso; omega) | skip))
          | (with_reducible exact u_ret rfl rfl)
          | ((with_reducible apply u_ret); (· rfl); first | exact rfl | (refine retB ?_) | (refine retI ?_) | (refine retD ?_))
          | ((with_reducible intro hz); (try simp only [sbs] at hz)))
        all_goals (try exact (false : Bool))
        all_goals first | (refine hR fun k hk => ?_; rcases Nat.lt_or_ge k i with h3 | h3; exact hJ k h3; rw [show k = i by omega]) | (symm; refine not_lines hip ?_)
        all_goals (by_cases k1 : (c.ln (i - 1)).mark = 2 <;> by_cases k2 : (p.it (i - 1)).leg = (p.it i).leg <;> by_cases k3 : (c.ln i).mark = 2 <;> cases h1 : lineOk (p.it i) (c.ln i) <;> simp_all [lnOk] <;> omega)
    · have hlf : decide ((p.n : Int) < (p.n : Int)) = false := by simp
      repeat' (first
        | ((with_reducible apply nrm); (· simp only [sbe]; rfl))
        | ((with_reducible apply u_iteF); (· rfl); (· first | exact hlf))
        | ((with_reducible apply u_chk); (· rfl))
        | ((with_reducible apply u_lenL); (· rfl); (· first | exact ln_it); (· simp only [sbe]; rfl))
        | ((with_reducible apply u_lenL); (· rfl); (· exact lenL_map); (· simp only [sbe]; rfl))
        | ((with_reducible apply u_inc); (· rfl); (· omega); (· simp only [sbe]; rfl))
        | ((with_reducible apply u_pred); (· rfl); (· omega); (· simp only [sbe]; rfl))
        | ((with_reducible apply u_add); (· rfl); (· rfl); (· omega); (· simp only [sbe]; rfl))
        | ((with_reducible apply u_sub); (· rfl); (· rfl); (· omega); (· simp only [sbe]; rfl))
        | ((with_reducible apply u_ev); (· rfl); (· simp only [sbe]; rfl))
        | ((with_reducible apply u_or); (· rfl))
        | ((with_reducible apply u_and); (· rfl))
        | (with_reducible refine u_join ?_)
        | ((with_reducible apply u_jump); (· rfl); (· rfl))
        | (with_reducible refine at_jump ?_)
        | (with_reducible refine over_jump (by decide) ?_)
        | (with_reducible refine kj rfl ?_)
        | ((with_reducible apply u_ite); (· rfl); all_goals (intro hz; (try simp only [sbs] at hz); first | (exact absurd hz (by decide)) | (exfalso; omega) | skip))
        | (with_reducible exact u_ret rfl rfl)
        | ((with_reducible apply u_ret); (· rfl); first | exact rfl | (refine retB ?_) | (refine retI ?_) | (refine retD ?_))
        | ((with_reducible intro hz); (try simp only [sbs] at hz)))
      symm
      simp [cardOk, hcls, hst2, hlen, lines_of fun i hi => hJ i (by omega)]

end Go.Am.Sc

/-
  The law of checks, as a text.
-/
namespace Go.Am.Sc
open Go.Proofs

noncomputable def u3 : U := (ups [.chk (.aggN 14 (.sym 0)),
  .chk (.aggN 3 (.sym 1)),
  .call 15 (.sym 2) [(agc 14 (.sym 0))] [true],
  .ev (.un .not (.sym 3)),
  .chain false (.sym 4) (ups [.chk (.cell 0 (.sym 0)),
  .ev (.lenL (.cell 0 (.sym 0))),
  .ev (.bin .leq .int (.sym 5) (ki 100))]
  (.ret (.sym 6))),
  .chain true (.sym 5) (ups [.chk (.cell 0 (.sym 0)),
  .ev (.lenL (.cell 0 (.sym 0))),
  .ev (.bin .gtr .int (.sym 6) (ki 300))]
  (.ret (.sym 7))),
  .chain true (.sym 6) (ups [.chk (.cell 6 (.sym 0)),
  .ev (.lenL (.cell 6 (.sym 0))),
  .chk (.cell 12 (.sym 0)),
  .ev (.lenL (.cell 12 (.sym 0))),
  .ev (.bin .add .int (.sym 7) (.sym 8)),
  .chk (.cell 13 (.sym 0)),
  .ev (.lenL (.cell 13 (.sym 0))),
  .ev (.bin .add .int (.sym 9) (.sym 10)),
  .ev (.bin .gtr .int (.sym 11) (ki 200))]
  (.ret (.sym 12))),
  .chain true (.sym 7) (ups [.ev (.lcons (.aggN 3 (agc 3 (.sym 1))) (.const (.lst []))),
  .call 16 (.sym 2) [(.sym 8), (ki 1)] [true],
  .ev (.un .not (.sym 9))]
  (.ret (.sym 10)))]
  (.ite (.sym 8) (ups [.call 17 (.sym 2) [] [true]]
  (.ret (.tcons (.sym 9) (.tcons (.sym 2) .tnil)))) (ups [.call 18 (.sym 2) [(agc 14 (.sym 0))] [true],
  .call 19 (.sym 2) [(agc 14 (.sym 0)), (agc 3 (.sym 1))] [true],
  .call 20 (.sym 2) [(agc 14 (.sym 0))] [true],
  .ev (.un .not (.sym 11))]
  (.ite (.sym 12) (ups [.ev (.bin .eql .int (.sym 9) (ki 2)),
  .chain false (.sym 13) (ups [.ev (.bin .eql .int (.sym 10) (ki 2))]
  (.ret (.sym 14))),
  .chain false (.sym 14) (ups [.call 17 (.sym 2) [] [true]]
  (.ret (.sym 15)))]
  (.ret (.tcons (.sym 15) (.tcons (.sym 2) .tnil)))) (ups [.call 21 (.sym 2) [(agc 14 (.sym 0)), (agc 3 (.sym 1))] [true],
  .ev (.un .not (.sym 13))]
  (.ite (.sym 14) (ups [.ev (.bin .eql .int (.sym 9) (ki 0)),
  .chain false (.sym 15) (ups [.ev (.bin .eql .int (.sym 10) (ki 2))]
  (.ret (.sym 16))),
  .chain false (.sym 16) (ups [.call 17 (.sym 2) [] [true]]
  (.ret (.sym 17)))]
  (.ret (.tcons (.sym 17) (.tcons (.sym 2) .tnil)))) (ups [.ev (.bin .eql .int (.sym 9) (ki 0)),
  .chain false (.sym 15) (ups [.ev (.bin .eql .int (.sym 10) (ki 0))]
  (.ret (.sym 16))),
  .chain false (.sym 16) (ups [.call 17 (.sym 2) [] [true]]
  (.ret (.sym 17)))]
  (.ret (.tcons (.sym 17) (.tcons (.sym 2) .tnil))))))))))
theorem ku3 : UOk Tryz.prog 3 .plain (scf true [] [] Tryz.f3) [false, false] u3 := UOk.plain Tryz.func3 (by kernel_rfl) (by kernel_rfl)

end Go.Am.Sc

/-
  Which arguments are small; the law of checks.
-/
namespace Go.Am.Sc
open Go.Proofs
set_option maxRecDepth 100000
set_option maxHeartbeats 4000000

attribute [local irreducible] inR allR lineOk

variable {bs : List D} {p : Plan} {c : Card}

def Plan.small (p : Plan) : Bool := decide ((p.n : Int) ≤ 12) && (decide ((p.jumps.length : Int) ≤ 20) && (decide ((p.points.length : Int) ≤ 80) && decide ((p.extra.length : Int) ≤ 80)))

theorem c15 : FSpecR Tryz.prog 15 (.st bs) [p.d] (B p.small) := by
  refine ku15.R rfl rfl ?_
  unfold u15
  simp only [ups_cons, ups_nil, List.cons_append, List.nil_append]
  repeat' (first
    | ((with_reducible apply nrm); (· simp only [sbe]; rfl))
    | ((with_reducible apply u_chk); (· rfl))
    | ((with_reducible apply u_lenL); (· rfl); (· first | exact ln_it); (· simp only [sbe]; rfl))
    | ((with_reducible apply u_lenL); (· rfl); (· exact lenL_map); (· simp only [sbe]; rfl))
    | ((with_reducible apply u_ev); (· rfl); (· simp only [sbe]; rfl))
    | ((with_reducible apply u_and); (· rfl))
    | ((with_reducible apply u_jump); (· rfl); (· rfl))
    | (with_reducible refine at_jump ?_)
    | (with_reducible refine over_jump (by decide) ?_)
    | (with_reducible refine kj rfl ?_)
    | ((with_reducible apply u_ite); (· rfl); all_goals (intro hz; (try simp only [sbs] at hz); first | (exact absurd hz (by decide)) | (exfalso; omega) | skip))
    | (with_reducible exact u_ret rfl rfl)
    | ((with_reducible apply u_ret); (· rfl); first | exact rfl | (refine retB ?_) | (refine retI ?_) | (refine retD ?_))
    | ((with_reducible intro hz); (try simp only [sbs] at hz)))
  simp [Plan.small, Bool.and_assoc]

def Card.small (c : Card) : Bool := decide ((c.starts.length : Int) ≤ 12) && decide ((c.lines.length : Int) ≤ 30)
def shortL (l : List Card) (most : Int) : Bool := l.all Card.small && (decide ((l.length : Int) ≤ most) || (decide ((l.length : Int) > 200) && decide ((l.length : Int) < 300)))

theorem ea_card {l : List Card} {i : Nat} (h : i < l.length) : D.eaddr 3 (.lst (l.map Card.d)) (In i) = some (.ptr (l[i]).d.cells) := eaddr_get h rfl

theorem c16 {l : List Card} {most : Int} (hL : l.length ≤ maxLen) : FSpecR Tryz.prog 16 (.st bs) [Cards l, I most] (B (shortL l most)) := by
  have hL' : l.length ≤ 9223372036854775807 := hL
  refine ku16.R rfl rfl ?_
  unfold u16
  simp only [ups_cons, ups_nil, List.cons_append, List.nil_append]
  repeat' (first
    | ((with_reducible apply nrm); (· simp only [sbe]; rfl))
    | ((with_reducible apply u_chk); (· rfl))
    | ((with_reducible apply u_lenL); (· rfl); (· exact lenL_map); (· simp only [sbe]; rfl))
    | ((with_reducible apply u_inc); (· rfl); (· omega); (· simp only [sbe]; rfl))
    | ((with_reducible apply u_add); (· rfl); (· rfl); (· omega); (· simp only [sbe]; rfl))
    | ((with_reducible apply u_ev); (· rfl); (· simp only [sbe]; rfl))
    | ((with_reducible apply u_or); (· rfl))
    | ((with_reducible apply u_and); (· rfl))
    | (with_reducible refine u_join ?_)
    | ((with_reducible apply u_jump); (· rfl); (· rfl))
    | (with_reducible refine at_jump ?_)
    | (with_reducible refine over_jump (by decide) ?_)
    | (with_reducible refine kj rfl ?_)
    | ((with_reducible apply u_ite); (· rfl); all_goals (intro hz; (try simp only [sbs] at hz); first | (exact absurd hz (by decide)) | (exfalso; omega) | skip))
    | (with_reducible exact u_ret rfl rfl)
    | ((with_reducible apply u_ret); (· rfl); first | exact rfl | (refine retB ?_) | (refine retI ?_) | (refine retD ?_))
    | ((with_reducible intro hz); (try simp only [sbs] at hz)))
  refine u_range (fun i => [I i]) (fun i => ∀ k (h : k < i) (h2 : k < l.length), (l[k]).small = true) l.length rfl (fun _ => rfl) (fun k h => absurd h (Nat.not_lt_zero _)) (fun i hj hJ R hR => ?_) (fun hJ R => ?_)
  · have hli : decide ((i : Int) < (l.length : Int)) = true := by simp; omega
    repeat' (first
      | ((with_reducible apply nrm); (· simp only [sbe]; rfl))
      | ((with_reducible apply u_iteT); (· rfl); (· first | exact hli))
      | ((with_reducible apply u_chk); (· rfl))
      | ((with_reducible apply u_eaddr); (· rfl); (· rfl); (· first | exact ea_card hj); (· simp only [sbe]; rfl))
      | ((with_reducible apply u_lenL); (· rfl); (· exact lenL_map); (· simp only [sbe]; rfl))
      | ((with_reducible apply u_inc); (· rfl); (· omega); (· simp only [sbe]; rfl))
      | ((with_reducible apply u_add); (· rfl); (· rfl); (· omega); (· simp only [sbe]; rfl))
      | ((with_reducible apply u_ev); (· rfl); (· simp only [sbe]; rfl))
      | ((with_reducible apply u_or); (· rfl))
      | ((with_reducible apply u_and); (· rfl))
      | (with_reducible refine u_join ?_)
      | ((with_reducible apply u_jump); (· rfl); (· rfl))
      | (with_reducible refine at_jump ?_)
      | (with_reducible refine over_jump (by decide) ?_)
      | (with_reducible refine kj rfl ?_)
      | ((with_reducible apply u_ite); (· rfl); all_goals (intro hz; (try simp only [sbs] at hz); first | (exact absurd hz (by decide)) | (exfalso; omega) | skip))
      | (with_reducible exact u_ret rfl rfl)
      | ((with_reducible apply u_ret); (· rfl); first | exact rfl | (refine retB ?_) | (refine retI ?_) | (refine retD ?_))
      | ((with_reducible intro hz); (try simp only [sbs] at hz)))
    · have : l.all Card.small = false := List.all_eq_false.2 ⟨_, List.getElem_mem hj, by simp only [Card.small, Bool.and_eq_true, decide_eq_true_eq]; omega⟩
      simp [shortL, this]
    · refine hR fun k hk h2 => ?_
      rcases Nat.lt_or_ge k i with h3 | h3
      · exact hJ k h3 h2
      · have e : k = i := by omega
        subst e
        simp only [Card.small, Bool.and_eq_true, decide_eq_true_eq]
        omega
  · have hlf : decide ((l.length : Int) < (l.length : Int)) = false := by simp
    repeat' (first
      | ((with_reducible apply nrm); (· simp only [sbe]; rfl))
      | ((with_reducible apply u_iteF); (· rfl); (· first | exact hlf))
      | ((with_reducible apply u_chk); (· rfl))
      | ((with_reducible apply u_lenL); (· rfl); (· exact lenL_map); (· simp only [sbe]; rfl))
      | ((with_reducible apply u_inc); (· rfl); (· omega); (· simp only [sbe]; rfl))
      | ((with_reducible apply u_add); (· rfl); (· rfl); (· omega); (· simp only [sbe]; rfl))
      | ((with_reducible apply u_ev); (· rfl); (· simp only [sbe]; rfl))
      | ((with_reducible apply u_or); (· rfl))
      | ((with_reducible apply u_and); (· rfl))
      | (with_reducible refine u_join ?_)
      | ((with_reducible apply u_jump); (· rfl); (· rfl))
      | (with_reducible refine at_jump ?_)
      | (with_reducible refine over_jump (by decide) ?_)
      | (with_reducible refine kj rfl ?_)
      | ((with_reducible apply u_ite); (· rfl); all_goals (intro hz; (try simp only [sbs] at hz); first | (exact absurd hz (by decide)) | (exfalso; omega) | skip))
      | (with_reducible exact u_ret rfl rfl)
      | ((with_reducible apply u_ret); (· rfl); first | exact rfl | (refine retB ?_) | (refine retI ?_) | (refine retD ?_))
      | ((with_reducible intro hz); (try simp only [sbs] at hz)))
    have : l.all Card.small = true := List.all_eq_true.2 fun a ha => by
      obtain ⟨k, hk, rfl⟩ := List.mem_iff_getElem.1 ha
      exact hJ k hk hk
    simp [shortL, this]

theorem c3 (hk : FSpecR Tryz.prog 17 (.st bs) [] (B true)) (hp : p.Ok) (hc : c.Ok) : FSpecW Tryz.prog 3 (.st bs) [p.d, c.d] (B true) (.st bs) := by
  have h16 := c16 (bs := bs) (l := [c]) (most := 1) (show 1 ≤ maxLen by decide)
  have h18 := c18 (bs := bs) hp
  have h20 := c20 (bs := bs) hp
  have h19 := c19 (bs := bs) hp hc
  obtain ⟨w1, hw1⟩ : ∃ w, D.bin .add .int (I p.jumps.length) (I p.points.length) = some (I w) := ⟨_, rfl⟩
  obtain ⟨w2, hw2⟩ : ∃ w, D.bin .add .int (I w1) (I p.extra.length) = some (I w) := ⟨_, rfl⟩
  refine ku3.W rfl ?_
  unfold u3
  simp only [ups_cons, ups_nil, List.cons_append, List.nil_append]
  cases hok : p.ok
  · rw [hok] at h18 h20 h19
    replace h18 : FSpecR Tryz.prog 18 (.st bs) [p.d] (I 2) := h18
    replace h19 : FSpecR Tryz.prog 19 (.st bs) [p.d, c.d] (I 2) := h19
    repeat' (first
      | ((with_reducible apply nrm); (· simp only [sbe]; rfl))
      | ((with_reducible apply u_chk); (· rfl))
      | ((with_reducible apply u_lenL); (· rfl); (· first | exact ln_it); (· simp only [sbe]; rfl))
      | ((with_reducible apply u_bin); (· rfl); (· rfl); (· first | exact hw1 | exact hw2); (· simp only [sbe]; rfl))
      | ((with_reducible apply u_lenL); (· rfl); (· exact lenL_map); (· simp only [sbe]; rfl))
      | ((with_reducible apply u_inc); (· rfl); (· omega); (· simp only [sbe]; rfl))
      | ((with_reducible apply u_add); (· rfl); (· rfl); (· omega); (· simp only [sbe]; rfl))
      | ((with_reducible apply u_ev); (· rfl); (· simp only [sbe]; rfl))
      | ((with_reducible apply u_call); (· rfl); (· rfl); (· first | exact c15 | exact h16 | exact h18 | exact h19 | exact h20 | exact hk); (· rfl); (· simp only [sbe]; rfl))
      | ((with_reducible apply u_or); (· rfl))
      | ((with_reducible apply u_and); (· rfl))
      | ((with_reducible apply u_jump); (· rfl); (· rfl))
      | (with_reducible refine at_jump ?_)
      | (with_reducible refine over_jump (by decide) ?_)
      | (with_reducible refine kj rfl ?_)
      | ((with_reducible apply u_ite); (· rfl); all_goals (intro hz; (try simp only [sbs] at hz); first | (exact absurd hz (by decide)) | (exfalso; omega) | skip))
      | (with_reducible exact u_ret rfl rfl)
      | ((with_reducible apply u_ret); (· rfl); first | exact rfl | (refine retB ?_) | (refine retI ?_) | (refine retD ?_))
      | ((with_reducible intro hz); (try simp only [sbs] at hz)))
    all_goals simp_all
  · have h21 := c21 (bs := bs) hp hc hok
    rw [hok] at h18 h20 h19
    replace h18 : FSpecR Tryz.prog 18 (.st bs) [p.d] (I 0) := h18
    cases hcd : cardOk p c
    · rw [hcd] at h21 h19
      replace h19 : FSpecR Tryz.prog 19 (.st bs) [p.d, c.d] (I 2) := h19
      repeat' (first
        | ((with_reducible apply nrm); (· simp only [sbe]; rfl))
        | ((with_reducible apply u_chk); (· rfl))
        | ((with_reducible apply u_lenL); (· rfl); (· first | exact ln_it); (· simp only [sbe]; rfl))
        | ((with_reducible apply u_bin); (· rfl); (· rfl); (· first | exact hw1 | exact hw2); (· simp only [sbe]; rfl))
        | ((with_reducible apply u_lenL); (· rfl); (· exact lenL_map); (· simp only [sbe]; rfl))
        | ((with_reducible apply u_inc); (· rfl); (· omega); (· simp only [sbe]; rfl))
        | ((with_reducible apply u_add); (· rfl); (· rfl); (· omega); (· simp only [sbe]; rfl))
        | ((with_reducible apply u_ev); (· rfl); (· simp only [sbe]; rfl))
        | ((with_reducible apply u_call); (· rfl); (· rfl); (· first | exact c15 | exact h16 | exact h18 | exact h19 | exact h20 | exact h21 | exact hk); (· rfl); (· simp only [sbe]; rfl))
        | ((with_reducible apply u_or); (· rfl))
        | ((with_reducible apply u_and); (· rfl))
        | ((with_reducible apply u_jump); (· rfl); (· rfl))
        | (with_reducible refine at_jump ?_)
        | (with_reducible refine over_jump (by decide) ?_)
        | (with_reducible refine kj rfl ?_)
        | ((with_reducible apply u_ite); (· rfl); all_goals (intro hz; (try simp only [sbs] at hz); first | (exact absurd hz (by decide)) | (exfalso; omega) | skip))
        | (with_reducible exact u_ret rfl rfl)
        | ((with_reducible apply u_ret); (· rfl); first | exact rfl | (refine retB ?_) | (refine retI ?_) | (refine retD ?_))
        | ((with_reducible intro hz); (try simp only [sbs] at hz)))
      all_goals simp_all
    · rw [hcd] at h21 h19
      replace h19 : FSpecR Tryz.prog 19 (.st bs) [p.d, c.d] (I 0) := h19
      repeat' (first
        | ((with_reducible apply nrm); (· simp only [sbe]; rfl))
        | ((with_reducible apply u_chk); (· rfl))
        | ((with_reducible apply u_lenL); (· rfl); (· first | exact ln_it); (· simp only [sbe]; rfl))
        | ((with_reducible apply u_bin); (· rfl); (· rfl); (· first | exact hw1 | exact hw2); (· simp only [sbe]; rfl))
        | ((with_reducible apply u_lenL); (· rfl); (· exact lenL_map); (· simp only [sbe]; rfl))
        | ((with_reducible apply u_inc); (· rfl); (· omega); (· simp only [sbe]; rfl))
        | ((with_reducible apply u_add); (· rfl); (· rfl); (· omega); (· simp only [sbe]; rfl))
        | ((with_reducible apply u_ev); (· rfl); (· simp only [sbe]; rfl))
        | ((with_reducible apply u_call); (· rfl); (· rfl); (· first | exact c15 | exact h16 | exact h18 | exact h19 | exact h20 | exact h21 | exact hk); (· rfl); (· simp only [sbe]; rfl))
        | ((with_reducible apply u_or); (· rfl))
        | ((with_reducible apply u_and); (· rfl))
        | ((with_reducible apply u_jump); (· rfl); (· rfl))
        | (with_reducible refine at_jump ?_)
        | (with_reducible refine over_jump (by decide) ?_)
        | (with_reducible refine kj rfl ?_)
        | ((with_reducible apply u_ite); (· rfl); all_goals (intro hz; (try simp only [sbs] at hz); first | (exact absurd hz (by decide)) | (exfalso; omega) | skip))
        | (with_reducible exact u_ret rfl rfl)
        | ((with_reducible apply u_ret); (· rfl); first | exact rfl | (refine retB ?_) | (refine retI ?_) | (refine retD ?_))
        | ((with_reducible intro hz); (try simp only [sbs] at hz)))
      all_goals simp_all

end Go.Am.Sc
