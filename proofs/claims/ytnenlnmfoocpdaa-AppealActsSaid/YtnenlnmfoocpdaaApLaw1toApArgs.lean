/-
  Several texts, one behind the other.
-/
import Derived.Test.YtnenlnmfoocpdaaApU3toApKnown
import Derived.Test.YtnenlnmfoocpdaaApCodes2toApDo
set_option linter.unusedSimpArgs false
set_option linter.unusedVariables false
/-
  What the laws on courts share; the law on acts.
-/
namespace Go.Am.Ct
open Go.Proofs Go.Am.Ap
set_option maxRecDepth 100000
set_option maxHeartbeats 4000000

variable {bs : List D} {j : Nat} {c : Cod} {l : List Akt} {a : Akt} {F : Nat → Prop}

attribute [local irreducible] inR

def Fac (l : List Akt) : Prop := ∀ a, a ∈ l → a.facts.length ≤ 1000000

theorem c29 {sa sf : D} (h : ActsAt bs j c l sa sf) (hL : l.length ≤ 1000000) (hf : Fac l) : FSpecR Try.prog 29 (.st bs) [.loc j 0] (Rec l) := by
  refine ku29.R rfl rfl ?_
  unfold u29
  simp only [ups_cons, ups_nil, List.cons_append, List.nil_append]
  repeat' (first
    | ((with_reducible apply nrm); (· simp only [sbe]; rfl))
    | ((with_reducible apply u_chk); (· rfl))
    | ((with_reducible apply u_ld); (· rfl); (· rfl); (· first | exact ld_blk h.1 rfl); (· simp only [sbe]; rfl))
    | ((with_reducible apply u_lenL); (· rfl); (· first | exact h.2.len); (· simp only [sbe]; rfl))
    | ((with_reducible apply u_lenL); (· rfl); (· exact lenL_map); (· simp only [sbe]; rfl))
    | ((with_reducible apply u_inc); (· rfl); (· omega); (· simp only [sbe]; rfl))
    | ((with_reducible apply u_add); (· rfl); (· rfl); (· omega); (· simp only [sbe]; rfl))
    | ((with_reducible apply u_ev); (· rfl); (· simp only [sbe]; rfl))
    | ((with_reducible apply u_call); (· rfl); (· rfl); (· first | exact c61 h); (· rfl); (· simp only [sbe]; rfl))
    | (with_reducible refine u_join ?_)
    | ((with_reducible apply u_jump); (· rfl); (· rfl))
    | (with_reducible refine at_jump ?_)
    | (with_reducible refine over_jump (by decide) ?_)
    | (with_reducible refine kj rfl ?_)
    | ((with_reducible apply u_ite); (· rfl); all_goals (intro hz; (try simp only [sbs] at hz); first | (exact absurd hz (by decide)) | (exfalso; omega) | skip))
    | (with_reducible exact u_ret rfl rfl)
    | ((with_reducible apply u_ret); (· rfl); first | exact rfl | (refine retB ?_) | (refine retI ?_) | (refine retD ?_)))
  refine u_range (fun i => [Rec (l.take i), I i]) (fun _ => True) l.length rfl (fun _ => rfl) trivial (fun i hi _ R hR => ?_) (fun _ R => ?_)
  · obtain ⟨b, rfl, hb⟩ := h.2.get hi
    have hfi := hf _ (List.getElem_mem hi)
    have hlt : (l.take i).length = i := by simp; omega
    have hm : (l.take i).length + 1 ≤ maxLen := by unfold maxLen; omega
    repeat' (first
      | ((with_reducible apply nrm); (· simp only [sbe]; rfl))
      | ((with_reducible apply u_chk); (· rfl))
      | ((with_reducible apply u_ld); (· rfl); (· rfl); (· first | exact ld_el hb (fun _ => rfl) (List.getElem?_eq_getElem hi)); (· simp only [sbe]; rfl))
      | ((with_reducible apply u_eaddr); (· rfl); (· rfl); (· first | exact eaddr_sl hi); (· simp only [sbe]; rfl))
      | ((with_reducible apply u_app); (· rfl); (· rfl); (· first | exact app1_lst (enc := Akt.d) (a := l[i]) (by omega) hm (fun _ => rfl)); (· simp only [sbe]; rfl))
      | ((with_reducible apply u_lenL); (· rfl); (· exact lenL_map); (· simp only [sbe]; rfl))
      | ((with_reducible apply u_inc); (· rfl); (· omega); (· simp only [sbe]; rfl))
      | ((with_reducible apply u_add); (· rfl); (· rfl); (· omega); (· simp only [sbe]; rfl))
      | ((with_reducible apply u_ev); (· rfl); (· simp only [sbe]; rfl))
      | ((with_reducible apply u_call); (· rfl); (· rfl); (· first | exact c70 _ hfi); (· rfl); (· simp only [sbe]; rfl))
      | (with_reducible refine u_join ?_)
      | ((with_reducible apply u_jump); (· rfl); (· rfl))
      | (with_reducible refine at_jump ?_)
      | (with_reducible refine over_jump (by decide) ?_)
      | (with_reducible refine kj rfl ?_)
      | ((with_reducible apply u_ite); (· rfl); all_goals (intro hz; (try simp only [sbs] at hz); first | (exact absurd hz (by decide)) | (exfalso; omega) | skip))
      | (with_reducible exact u_ret rfl rfl)
      | ((with_reducible apply u_ret); (· rfl); first | exact rfl | (refine retB ?_) | (refine retI ?_) | (refine retD ?_)))
    have hr := hR trivial
    rw [List.take_succ_eq_append_getElem hi] at hr
    exact hr
  · repeat' (first
      | ((with_reducible apply nrm); (· simp only [sbe]; rfl))
      | ((with_reducible apply u_chk); (· rfl))
      | ((with_reducible apply u_lenL); (· rfl); (· exact lenL_map); (· simp only [sbe]; rfl))
      | ((with_reducible apply u_inc); (· rfl); (· omega); (· simp only [sbe]; rfl))
      | ((with_reducible apply u_add); (· rfl); (· rfl); (· omega); (· simp only [sbe]; rfl))
      | ((with_reducible apply u_ev); (· rfl); (· simp only [sbe]; rfl))
      | (with_reducible refine u_join ?_)
      | ((with_reducible apply u_jump); (· rfl); (· rfl))
      | (with_reducible refine at_jump ?_)
      | (with_reducible refine over_jump (by decide) ?_)
      | (with_reducible refine kj rfl ?_)
      | ((with_reducible apply u_ite); (· rfl); all_goals (intro hz; (try simp only [sbs] at hz); first | (exact absurd hz (by decide)) | (exfalso; omega) | skip))
      | (with_reducible exact u_ret rfl rfl)
      | ((with_reducible apply u_ret); (· rfl); first | exact rfl | (refine retB ?_) | (refine retI ?_) | (refine retD ?_)))
    rw [List.take_length]

theorem sameA_self (a : Akt) : sameA a a = true := by simp [sameA, sameBut]

theorem c28 (hL : l.length ≤ 1000000) (hf : Fac l) : FSpecR Try.prog 28 (.st bs) [Rec l, Rec l] (B true) := by
  refine ku28.R rfl rfl ?_
  unfold u28
  simp only [ups_cons, ups_nil, List.cons_append, List.nil_append]
  repeat' (first
    | ((with_reducible apply nrm); (· simp only [sbe]; rfl))
    | ((with_reducible apply u_lenL); (· rfl); (· exact lenL_map); (· simp only [sbe]; rfl))
    | ((with_reducible apply u_inc); (· rfl); (· omega); (· simp only [sbe]; rfl))
    | ((with_reducible apply u_add); (· rfl); (· rfl); (· omega); (· simp only [sbe]; rfl))
    | ((with_reducible apply u_ev); (· rfl); (· simp only [sbe]; rfl))
    | (with_reducible refine u_join ?_)
    | ((with_reducible apply u_jump); (· rfl); (· rfl))
    | (with_reducible refine at_jump ?_)
    | (with_reducible refine over_jump (by decide) ?_)
    | (with_reducible refine kj rfl ?_)
    | ((with_reducible apply u_ite); (· rfl); all_goals (intro hz; (try simp only [sbs] at hz); first | (exact absurd hz (by decide)) | (exfalso; omega) | skip))
    | (with_reducible exact u_ret rfl rfl)
    | ((with_reducible apply u_ret); (· rfl); first | exact rfl | (refine retB ?_) | (refine retI ?_) | (refine retD ?_)))
  refine u_range (fun i => [I i]) (fun _ => True) l.length rfl (fun _ => rfl) trivial (fun i hi _ R hR => ?_) (fun _ R => ?_)
  · have hfi := hf _ (List.getElem_mem hi)
    have h71 := c71 (bs := bs) l[i] l[i] (by omega)
    rw [sameA_self] at h71
    repeat' (first
      | ((with_reducible apply nrm); (· simp only [sbe]; rfl))
      | ((with_reducible apply u_iteF); (· rfl); (· first | exact rfl))
      | ((with_reducible apply u_eaddr); (· rfl); (· rfl); (· first | exact eaddr_get hi rfl); (· simp only [sbe]; rfl))
      | ((with_reducible apply u_lenL); (· rfl); (· exact lenL_map); (· simp only [sbe]; rfl))
      | ((with_reducible apply u_inc); (· rfl); (· omega); (· simp only [sbe]; rfl))
      | ((with_reducible apply u_add); (· rfl); (· rfl); (· omega); (· simp only [sbe]; rfl))
      | ((with_reducible apply u_ev); (· rfl); (· simp only [sbe]; rfl))
      | ((with_reducible apply u_call); (· rfl); (· rfl); (· first | exact h71); (· rfl); (· simp only [sbe]; rfl))
      | (with_reducible refine u_join ?_)
      | ((with_reducible apply u_jump); (· rfl); (· rfl))
      | (with_reducible refine at_jump ?_)
      | (with_reducible refine over_jump (by decide) ?_)
      | (with_reducible refine kj rfl ?_)
      | ((with_reducible apply u_ite); (· rfl); all_goals (intro hz; (try simp only [sbs] at hz); first | (exact absurd hz (by decide)) | (exfalso; omega) | skip))
      | (with_reducible exact u_ret rfl rfl)
      | ((with_reducible apply u_ret); (· rfl); first | exact rfl | (refine retB ?_) | (refine retI ?_) | (refine retD ?_)))
    exact hR trivial
  · repeat' (first
      | ((with_reducible apply nrm); (· simp only [sbe]; rfl))
      | ((with_reducible apply u_lenL); (· rfl); (· exact lenL_map); (· simp only [sbe]; rfl))
      | ((with_reducible apply u_inc); (· rfl); (· omega); (· simp only [sbe]; rfl))
      | ((with_reducible apply u_add); (· rfl); (· rfl); (· omega); (· simp only [sbe]; rfl))
      | ((with_reducible apply u_ev); (· rfl); (· simp only [sbe]; rfl))
      | (with_reducible refine u_join ?_)
      | ((with_reducible apply u_jump); (· rfl); (· rfl))
      | (with_reducible refine at_jump ?_)
      | (with_reducible refine over_jump (by decide) ?_)
      | (with_reducible refine kj rfl ?_)
      | ((with_reducible apply u_ite); (· rfl); all_goals (intro hz; (try simp only [sbs] at hz); first | (exact absurd hz (by decide)) | (exfalso; omega) | skip))
      | (with_reducible exact u_ret rfl rfl)
      | ((with_reducible apply u_ret); (· rfl); first | exact rfl | (refine retB ?_) | (refine retI ?_) | (refine retD ?_)))

theorem c22 (l : List Akt) : ∃ b, FSpecR Try.prog 22 (.st bs) [Rec l, I 25] (B b) ∧ (b = true → l.length ≤ 25 ∧ ∀ a, a ∈ l → a.facts.length ≤ 25) := by
  by_cases hh : ∀ i (h : i < l.length), i ≤ 25 → l[i].facts.length ≤ 25
  · refine ⟨decide ((l.length : Int) ≤ 25), ?_, fun h => ?_⟩
    · refine ku22.R rfl rfl ?_
      unfold u22
      simp only [ups_cons, ups_nil, List.cons_append, List.nil_append]
      repeat' (first
        | ((with_reducible apply nrm); (· simp only [sbe]; rfl))
        | ((with_reducible apply u_chk); (· rfl))
        | ((with_reducible apply u_lenL); (· rfl); (· exact lenL_map); (· simp only [sbe]; rfl))
        | ((with_reducible apply u_inc); (· rfl); (· omega); (· simp only [sbe]; rfl))
        | ((with_reducible apply u_add); (· rfl); (· rfl); (· omega); (· simp only [sbe]; rfl))
        | ((with_reducible apply u_ev); (· rfl); (· simp only [sbe]; rfl))
        | ((with_reducible apply u_and); (· rfl))
        | (with_reducible refine u_join ?_)
        | ((with_reducible apply u_jump); (· rfl); (· rfl))
        | (with_reducible refine at_jump ?_)
        | (with_reducible refine over_jump (by decide) ?_)
        | (with_reducible refine kj rfl ?_)
        | ((with_reducible apply u_ite); (· rfl); all_goals (intro hz; (try simp only [sbs] at hz); first | (exact absurd hz (by decide)) | (exfalso; omega) | skip))
        | (with_reducible exact u_ret rfl rfl)
        | ((with_reducible apply u_ret); (· rfl); first | exact rfl | (refine retB ?_) | (refine retI ?_) | (refine retD ?_))
        | ((with_reducible intro hz); (try simp only [sbs] at hz)))
      refine u_list l (fun (_ : Unit) i => [I i]) (fun _ _ => True) () rfl (fun _ _ => rfl) trivial (fun i x _ hx hlt _ R hR => ?_) (fun _ _ R => ?_)
      · have hxi := hh i hlt
        obtain ⟨_, rfl⟩ := List.getElem?_eq_some_iff.1 hx
        repeat' (first
          | ((with_reducible apply nrm); (· simp only [sbe]; rfl))
          | ((with_reducible apply u_chk); (· rfl))
          | ((with_reducible apply u_eaddr); (· rfl); (· rfl); (· first | exact eaddr_get hlt rfl); (· simp only [sbe]; rfl))
          | ((with_reducible apply u_lenL); (· rfl); (· exact lenL_map); (· simp only [sbe]; rfl))
          | ((with_reducible apply u_inc); (· rfl); (· omega); (· simp only [sbe]; rfl))
          | ((with_reducible apply u_add); (· rfl); (· rfl); (· omega); (· simp only [sbe]; rfl))
          | ((with_reducible apply u_ev); (· rfl); (· simp only [sbe]; rfl))
          | ((with_reducible apply u_and); (· rfl))
          | (with_reducible refine u_join ?_)
          | ((with_reducible apply u_jump); (· rfl); (· rfl))
          | (with_reducible refine at_jump ?_)
          | (with_reducible refine over_jump (by decide) ?_)
          | (with_reducible refine kj rfl ?_)
          | ((with_reducible apply u_ite); (· rfl); all_goals (intro hz; (try simp only [sbs] at hz); first | (exact absurd hz (by decide)) | (exfalso; omega) | skip))
          | (with_reducible exact u_ret rfl rfl)
          | ((with_reducible apply u_ret); (· rfl); first | exact rfl | (refine retB ?_) | (refine retI ?_) | (refine retD ?_))
          | ((with_reducible intro hz); (try simp only [sbs] at hz)))
        exact hR () trivial
      · repeat' (first
          | ((with_reducible apply nrm); (· simp only [sbe]; rfl))
          | ((with_reducible apply u_chk); (· rfl))
          | ((with_reducible apply u_lenL); (· rfl); (· exact lenL_map); (· simp only [sbe]; rfl))
          | ((with_reducible apply u_inc); (· rfl); (· omega); (· simp only [sbe]; rfl))
          | ((with_reducible apply u_add); (· rfl); (· rfl); (· omega); (· simp only [sbe]; rfl))
          | ((with_reducible apply u_ev); (· rfl); (· simp only [sbe]; rfl))
          | ((with_reducible apply u_and); (· rfl))
          | (with_reducible refine u_join ?_)
          | ((with_reducible apply u_jump); (· rfl); (· rfl))
          | (with_reducible refine at_jump ?_)
          | (with_reducible refine over_jump (by decide) ?_)
          | (with_reducible refine kj rfl ?_)
          | ((with_reducible apply u_ite); (· rfl); all_goals (intro hz; (try simp only [sbs] at hz); first | (exact absurd hz (by decide)) | (exfalso; omega) | skip))
          | (with_reducible exact u_ret rfl rfl)
          | ((with_reducible apply u_ret); (· rfl); first | exact rfl | (refine retB ?_) | (refine retI ?_) | (refine retD ?_))
          | ((with_reducible intro hz); (try simp only [sbs] at hz)))
    · have hl : l.length ≤ 25 := Int.ofNat_le.1 (by simpa using h)
      refine ⟨hl, fun a ha => ?_⟩
      obtain ⟨i, hi, rfl⟩ := List.mem_iff_getElem.1 ha
      exact hh i hi (by omega)
  · refine ⟨false, ?_, fun h => by cases h⟩
    refine ku22.R rfl rfl ?_
    unfold u22
    simp only [ups_cons, ups_nil, List.cons_append, List.nil_append]
    repeat' (first
      | ((with_reducible apply nrm); (· simp only [sbe]; rfl))
      | ((with_reducible apply u_chk); (· rfl))
      | ((with_reducible apply u_lenL); (· rfl); (· exact lenL_map); (· simp only [sbe]; rfl))
      | ((with_reducible apply u_inc); (· rfl); (· omega); (· simp only [sbe]; rfl))
      | ((with_reducible apply u_add); (· rfl); (· rfl); (· omega); (· simp only [sbe]; rfl))
      | ((with_reducible apply u_ev); (· rfl); (· simp only [sbe]; rfl))
      | ((with_reducible apply u_and); (· rfl))
      | (with_reducible refine u_join ?_)
      | ((with_reducible apply u_jump); (· rfl); (· rfl))
      | (with_reducible refine at_jump ?_)
      | (with_reducible refine over_jump (by decide) ?_)
      | (with_reducible refine kj rfl ?_)
      | ((with_reducible apply u_ite); (· rfl); all_goals (intro hz; (try simp only [sbs] at hz); first | (exact absurd hz (by decide)) | (exfalso; omega) | skip))
      | (with_reducible exact u_ret rfl rfl)
      | ((with_reducible apply u_ret); (· rfl); first | exact rfl | (refine retB ?_) | (refine retI ?_) | (refine retD ?_))
      | ((with_reducible intro hz); (try simp only [sbs] at hz)))
    refine u_range (fun i => [I i]) (fun i => ∀ k (h : k < i) (h2 : k < l.length), k ≤ 25 → l[k].facts.length ≤ 25) l.length rfl (fun _ => rfl) (fun k h => absurd h (Nat.not_lt_zero _)) (fun i hi hJ R hR => ?_) (fun hJ R => ?_)
    · repeat' (first
        | ((with_reducible apply nrm); (· simp only [sbe]; rfl))
        | ((with_reducible apply u_chk); (· rfl))
        | ((with_reducible apply u_eaddr); (· rfl); (· rfl); (· first | exact eaddr_get hi rfl); (· simp only [sbe]; rfl))
        | ((with_reducible apply u_lenL); (· rfl); (· exact lenL_map); (· simp only [sbe]; rfl))
        | ((with_reducible apply u_inc); (· rfl); (· omega); (· simp only [sbe]; rfl))
        | ((with_reducible apply u_add); (· rfl); (· rfl); (· omega); (· simp only [sbe]; rfl))
        | ((with_reducible apply u_ev); (· rfl); (· simp only [sbe]; rfl))
        | ((with_reducible apply u_and); (· rfl))
        | (with_reducible refine u_join ?_)
        | ((with_reducible apply u_jump); (· rfl); (· rfl))
        | (with_reducible refine at_jump ?_)
        | (with_reducible refine over_jump (by decide) ?_)
        | (with_reducible refine kj rfl ?_)
        | ((with_reducible apply u_ite); (· rfl); all_goals (intro hz; (try simp only [sbs] at hz); first | (exact absurd hz (by decide)) | (exfalso; omega) | skip))
        | (with_reducible exact u_ret rfl rfl)
        | ((with_reducible apply u_ret); (· rfl); first | exact rfl | (refine retB ?_) | (refine retI ?_) | (refine retD ?_))
        | ((with_reducible intro hz); (try simp only [sbs] at hz)))
      · refine hR fun k hk h2 h3 => ?_
        rcases Nat.lt_or_ge k i with h4 | h4
        · exact hJ k h4 h2 h3
        · have e : k = i := by omega
          subst e
          omega
      · simp
        omega
    · exact absurd (fun i h => hJ i h h) hh

theorem c24 (ho : okCode c = true) : FSpecW Try.prog 24 (.st bs) [c.d] (.tup [.loc bs.length 0, I 0]) (.st (bs ++ [.blk 99 9 (crtCells c .snil .snil)])) := by
  have hc := codOk_of ho
  have k41 := c41 (bs := bs) c
  rw [ho] at k41
  have k56 := c56 (bs := bs) c.arts (by have := hc.arts; omega)
  refine ku24.W rfl ?_
  unfold u24
  simp only [ups_cons, ups_nil, List.cons_append, List.nil_append]
  repeat' (first
    | ((with_reducible apply nrm); (· simp only [sbe]; rfl))
    | ((with_reducible apply u_iteF); (· rfl); (· first | exact rfl))
    | ((with_reducible apply u_chk); (· rfl))
    | ((with_reducible apply u_ev); (· rfl); (· simp only [sbe]; rfl))
    | ((with_reducible apply u_call); (· rfl); (· rfl); (· first | exact k41 | exact k56); (· rfl); (· simp only [sbe]; rfl))
    | ((with_reducible apply u_jump); (· rfl); (· rfl))
    | (with_reducible refine at_jump ?_)
    | (with_reducible refine over_jump (by decide) ?_)
    | (with_reducible refine kj rfl ?_)
    | ((with_reducible apply u_ite); (· rfl); all_goals (intro hz; (try simp only [sbs] at hz); first | (exact absurd hz (by decide)) | (exfalso; omega) | skip))
    | (with_reducible exact u_ret rfl rfl)
    | ((with_reducible apply u_ret); (· rfl); first | exact rfl | (refine retB ?_) | (refine retI ?_) | (refine retD ?_)))

theorem open_court (bs : List D) (c : Cod) : Court (bs ++ [.blk 99 9 (crtCells c .snil .snil)]) (fun k => k = bs.length) bs.length c [] :=
  ⟨.snil, .snil, [], ⟨by simp, SlOf.nil⟩, SlOf.nil, rfl, fun k p idx h => (by simp [qOf, pro, prot] at h), fun k k' f f' i h => (by simp at h), rfl, fun i h => (by cases h), fun i h => (by cases h), fun k f i h => (by simp at h), fun k h => (by simp; omega)⟩

theorem acc_nil (c : Cod) : Acc c [] := fun i h => by simp at h

theorem acc_do (h : Acc c l) (a : Akt) : Acc c (doL c l a) := by
  unfold doL
  split
  · exact acc_snoc.2 ⟨h, by assumption⟩
  · exact h

theorem fac_do (h : Fac l) (ha : a.facts.length ≤ 1000000) : Fac (doL c l a) := by
  unfold doL
  split
  · intro b hb
    rcases List.mem_append.1 hb with hb | hb
    · exact h b hb
    · simp at hb; rw [hb]; exact ha
  · exact h

theorem len_do : (doL c l a).length ≤ l.length + 1 := by unfold doL; split <;> simp

theorem pro_pos (h : a.kind = 2) : (pro (l ++ [a])).length = (pro l).length + 1 := by rw [pro_snoc, if_pos h]; simp

structure CS (c : Cod) (j : Nat) where
  bs : List D
  F : Nat → Prop
  l : List Akt
  acc : Acc c l
  fac : Fac l
  crt : Court bs F j c l

noncomputable def CS.step (hc : CodOk c) (s : CS c j) (a : Akt) : CS c j :=
  if h : a.facts.length ≤ 1000000 then
    { bs := Classical.choose (c26 s.acc hc s.crt a h)
      F := Classical.choose (Classical.choose_spec (c26 s.acc hc s.crt a h))
      l := doL c s.l a
      acc := acc_do s.acc a
      fac := fac_do s.fac h
      crt := (Classical.choose_spec (Classical.choose_spec (c26 s.acc hc s.crt a h))).2.2 }
  else s

theorem CS.step_l (hc : CodOk c) (s : CS c j) {a : Akt} (h : a.facts.length ≤ 1000000) : (s.step hc a).l = doL c s.l a := by
  unfold CS.step; rw [dif_pos h]
theorem CS.step_do (hc : CodOk c) (s : CS c j) {a : Akt} (h : a.facts.length ≤ 1000000) : FSpecWO Try.prog 26 (.st s.bs) [.loc j 0, a.d] (.ret (.tup [I (doN c s.l a), I (refused c s.l a)])) (.st (s.step hc a).bs) := by
  unfold CS.step; rw [dif_pos h]
  exact (Classical.choose_spec (Classical.choose_spec (c26 s.acc hc s.crt a h))).1
theorem CS.step_stp (hc : CodOk c) (s : CS c j) {a : Akt} (h : a.facts.length ≤ 1000000) : Stp s.bs s.F (s.step hc a).bs (s.step hc a).F := by
  unfold CS.step; rw [dif_pos h]
  exact (Classical.choose_spec (Classical.choose_spec (c26 s.acc hc s.crt a h))).2.1

noncomputable def CS.run (hc : CodOk c) (s : CS c j) (l : List Akt) : CS c j := l.foldl (CS.step hc) s

theorem CS.run_snoc (hc : CodOk c) (s : CS c j) (l : List Akt) (a : Akt) : s.run hc (l ++ [a]) = (s.run hc l).step hc a := by simp [CS.run]

def CS.new (bs : List D) (c : Cod) : CS c bs.length := ⟨bs ++ [.blk 99 9 (crtCells c .snil .snil)], fun k => k = bs.length, [], acc_nil c, fun _ h => (by cases h), open_court bs c⟩

def recOf (c : Cod) (l r : List Akt) : List Akt := r.foldl (doL c) l

theorem recOf_snoc (c : Cod) (l r : List Akt) (a : Akt) : recOf c l (r ++ [a]) = doL c (recOf c l r) a := by simp [recOf]

theorem CS.run_l (hc : CodOk c) (s : CS c j) : ∀ r : List Akt, Fac r → (s.run hc r).l = recOf c s.l r := by
  refine snocInd ?_ ?_
  · intro _; rfl
  · intro r a ih h
    rw [CS.run_snoc, recOf_snoc, CS.step_l hc _ (h a (by simp)), ih fun b hb => h b (by simp [hb])]

theorem recOf_len (c : Cod) : ∀ (r l : List Akt), (recOf c l r).length ≤ l.length + r.length := by
  refine snocInd ?_ ?_
  · intro l; simp [recOf]
  · intro r a ih l
    rw [recOf_snoc]
    have := ih l
    have h2 := len_do (c := c) (l := recOf c l r) (a := a)
    simp
    omega

theorem fac_take {l : List Akt} (h : Fac l) (i : Nat) : Fac (l.take i) := fun a ha => h a (List.mem_of_mem_take ha)

theorem take_one {l : List Akt} {i : Nat} (h : i < l.length) : l.take (i + 1) = l.take i ++ [l[i]] := List.take_succ_eq_append_getElem h

end Go.Am.Ct

/-
  The law on acts.
-/
namespace Go.Am.Ct
open Go.Proofs Go.Am.Ap
set_option maxRecDepth 100000
set_option maxHeartbeats 4000000

variable {c : Cod} {l : List Akt}

theorem c4 (c : Cod) (l : List Akt) : ∃ h', FSpecWO Try.prog 4 (.st []) [c.d, Rec l] (.ret (B true)) h' := by
  have k21 := c21 (bs := []) c
  obtain ⟨b22, k22, hb22⟩ := c22 (bs := []) l
  have k23 := c23 (bs := []) c
  have k16 := known_spec []
  cases hB : ((!(decide ((c.arts.length : Int) ≤ 20) || (decide (500 < (c.arts.length : Int)) && decide ((c.arts.length : Int) < 600)))) || (!b22)) || (!okCode c)
  rotate_left
  · refine ⟨.st [], ku4.writeO rfl ?_⟩
    unfold u4
    simp only [ups_cons, ups_nil, List.cons_append, List.nil_append]
    repeat' (first
      | ((with_reducible apply nrm); (· simp only [sbe]; rfl))
      | ((with_reducible apply u_iteT); (· rfl); (· first | exact hB))
      | ((with_reducible apply u_chk); (· rfl))
      | ((with_reducible apply u_lenL); (· rfl); (· exact lenL_map); (· simp only [sbe]; rfl))
      | ((with_reducible apply u_inc); (· rfl); (· omega); (· simp only [sbe]; rfl))
      | ((with_reducible apply u_pred); (· rfl); (· omega); (· simp only [sbe]; rfl))
      | ((with_reducible apply u_add); (· rfl); (· rfl); (· omega); (· simp only [sbe]; rfl))
      | ((with_reducible apply u_sub); (· rfl); (· rfl); (· omega); (· simp only [sbe]; rfl))
      | ((with_reducible apply u_ev); (· rfl); (· simp only [sbe]; rfl))
      | ((with_reducible apply u_call); (· rfl); (· rfl); (· first | exact k21 | exact k22 | exact k23 | exact k16); (· rfl); (· simp only [sbe]; rfl))
      | ((with_reducible apply u_or); (· rfl))
      | (with_reducible refine u_join ?_)
      | ((with_reducible apply u_jump); (· rfl); (· rfl))
      | (with_reducible refine at_jump ?_)
      | (with_reducible refine over_jump (by decide) ?_)
      | (with_reducible refine kj rfl ?_)
      | ((with_reducible apply u_ite); (· rfl); all_goals (intro hz; (try simp only [sbs] at hz); first | (exact absurd hz (by decide)) | (exfalso; omega) | skip))
      | (with_reducible exact u_ret rfl rfl)
      | ((with_reducible apply u_ret); (· rfl); first | exact rfl | (refine retB ?_) | (refine retI ?_) | (refine retD ?_))
      | ((with_reducible intro hz); (try simp only [sbs] at hz)))
  · have hB2 := hB
    simp only [Bool.or_eq_false_iff, Bool.not_eq_false'] at hB2
    obtain ⟨⟨_, h2⟩, h3⟩ := hB2
    obtain ⟨hl, hfa⟩ := hb22 h2
    have hc := codOk_of h3
    have k24 := c24 (bs := []) h3
    have hF : Fac l := fun a ha => by have := hfa a ha; omega
    let st := fun i => (CS.new [] c).run hc (l.take i)
    have hst : ∀ i (h : i < l.length), st (i + 1) = (st i).step hc l[i] := fun i h => by
      show (CS.new [] c).run hc (l.take (i + 1)) = _
      rw [take_one h, CS.run_snoc]
    have hlen : ∀ i, (st i).l.length ≤ 25 := fun i => by
      have e : (st i).l = recOf c [] (l.take i) := CS.run_l hc _ _ (fac_take hF i)
      rw [e]
      have := recOf_len c (l.take i) []
      simp at this
      omega
    refine ⟨.st (st l.length).bs, ku4.writeO rfl ?_⟩
    unfold u4
    simp only [ups_cons, ups_nil, List.cons_append, List.nil_append]
    repeat' (first
      | ((with_reducible apply nrm); (· simp only [sbe]; rfl))
      | ((with_reducible apply u_iteF); (· rfl); (· first | exact hB | exact rfl))
      | ((with_reducible apply u_chk); (· rfl))
      | ((with_reducible apply u_lenL); (· rfl); (· exact lenL_map); (· simp only [sbe]; rfl))
      | ((with_reducible apply u_inc); (· rfl); (· omega); (· simp only [sbe]; rfl))
      | ((with_reducible apply u_pred); (· rfl); (· omega); (· simp only [sbe]; rfl))
      | ((with_reducible apply u_add); (· rfl); (· rfl); (· omega); (· simp only [sbe]; rfl))
      | ((with_reducible apply u_sub); (· rfl); (· rfl); (· omega); (· simp only [sbe]; rfl))
      | ((with_reducible apply u_ev); (· rfl); (· simp only [sbe]; rfl))
      | ((with_reducible apply u_call); (· rfl); (· rfl); (· first | exact k21 | exact k22 | exact k23); (· rfl); (· simp only [sbe]; rfl))
      | ((with_reducible apply u_wcall); (· rfl); (· rfl); (· first | exact k24); (· rfl); (· simp only [sbe]; rfl))
      | ((with_reducible apply u_or); (· rfl))
      | (with_reducible refine u_join ?_)
      | ((with_reducible apply u_jump); (· rfl); (· rfl))
      | (with_reducible refine at_jump ?_)
      | (with_reducible refine over_jump (by decide) ?_)
      | (with_reducible refine kj rfl ?_)
      | ((with_reducible apply u_ite); (· rfl); all_goals (intro hz; (try simp only [sbs] at hz); first | (exact absurd hz (by decide)) | (exfalso; omega) | skip))
      | (with_reducible exact u_ret rfl rfl)
      | ((with_reducible apply u_ret); (· rfl); first | exact rfl | (refine retB ?_) | (refine retI ?_) | (refine retD ?_))
      | ((with_reducible intro hz); (try simp only [sbs] at hz)))
    refine u_range (fun i => [Rec (st i).l, I i, .st (st i).bs]) (fun _ => True) l.length rfl (fun _ => rfl) trivial (fun i hi _ R hR => ?_) (fun _ R => ?_)
    · have hfi := hF _ (List.getElem_mem hi)
      have hr := hR trivial
      have hli := hlen i
      have hli1 := hlen (i + 1)
      rw [hst i hi] at hr hli1
      obtain ⟨sa, sf, fs, hcrt⟩ := ((st i).step hc l[i]).crt
      have h26 := CS.step_do hc (st i) hfi
      have h25 := c25 (bs := (st i).bs) (c := c) (by have := hc.arts; omega) (by omega : (st i).l.length ≤ 1000000) (inv_of _ (st i).acc).mins l[i] hfi
      have h29 := c29 hcrt.acts (by omega) ((st i).step hc l[i]).fac
      have h28 := c28 (bs := ((st i).step hc l[i]).bs) (by omega : ((st i).step hc l[i]).l.length ≤ 1000000) ((st i).step hc l[i]).fac
      have hL := CS.step_l hc (st i) hfi
      rw [hL] at h29 h28 hr hli1
      have hm : (st i).l.length + 1 ≤ maxLen := by unfold maxLen; omega
      have hk := fun h0 : refused c (st i).l l[i] = 0 => actOk_kind (good_of h0).ok
      unfold doL at h29 h28 hr hli1
      unfold doN at h26
      by_cases h0 : refused c (st i).l l[i] = 0
      · rw [if_pos h0] at h29 h28 hr hli1
        rw [if_neg (by omega)] at h26
        have h27 := c27 (bs := ((st i).step hc l[i]).bs) (l := (st i).l ++ [l[i]]) (by simp; omega)
        have hpb : (prot ((st i).l ++ [l[i]]) ((st i).l ++ [l[i]]).length).length ≤ 26 := by
          have h1 := prot_len ((st i).l ++ [l[i]]) ((st i).l ++ [l[i]]).length
          have h2 : ((st i).l ++ [l[i]]).length = (st i).l.length + 1 := by simp
          omega
        repeat' (first
          | ((with_reducible apply nrm); (· simp only [sbe]; rfl))
          | ((with_reducible apply u_chk); (· rfl))
          | ((with_reducible apply u_eaddr); (· rfl); (· rfl); (· first | exact eaddr_get hi rfl); (· simp only [sbe]; rfl))
          | ((with_reducible apply u_app); (· rfl); (· rfl); (· first | exact app1_lst (enc := Akt.d) (a := l[i]) (by omega) hm (fun _ => rfl)); (· simp only [sbe]; rfl))
          | ((with_reducible apply u_lenL); (· rfl); (· exact lenL_map); (· simp only [sbe]; rfl))
          | ((with_reducible apply u_inc); (· rfl); (· omega); (· simp only [sbe]; rfl))
          | ((with_reducible apply u_pred); (· rfl); (· omega); (· simp only [sbe]; rfl))
          | ((with_reducible apply u_add); (· rfl); (· rfl); (· omega); (· simp only [sbe]; rfl))
          | ((with_reducible apply u_sub); (· rfl); (· rfl); (· omega); (· simp only [sbe]; rfl))
          | ((with_reducible apply u_ev); (· rfl); (· simp only [sbe]; rfl))
          | ((with_reducible apply u_call); (· rfl); (· rfl); (· first | exact h25 | exact h27 | exact h29 | exact h28); (· rfl); (· simp only [sbe]; rfl))
          | ((with_reducible apply u_wcall); (· rfl); (· rfl); (· first | exact h26); (· rfl); (· simp only [sbe]; rfl))
          | ((with_reducible apply u_or); (· rfl))
          | (with_reducible refine u_join ?_)
          | ((with_reducible apply u_jump); (· rfl); (· rfl))
          | (with_reducible refine at_jump ?_)
          | (with_reducible refine over_jump (by decide) ?_)
          | (with_reducible refine kj rfl ?_)
          | ((with_reducible apply u_ite); (· rfl); all_goals (intro hz; (try simp only [sbs] at hz); first | (exact absurd hz (by decide)) | (exfalso; omega) | skip))
          | (with_reducible exact u_ret rfl rfl)
          | ((with_reducible apply u_ret); (· rfl); first | exact rfl | (refine retB ?_) | (refine retI ?_) | (refine retD ?_))
          | ((with_reducible intro hz); (try simp only [sbs] at hz)))
        all_goals first | exact hr | skip
        all_goals (
          exfalso
          have hp := pro_pos (l := (st i).l) (a := l[i])
          unfold pro at hp hz
          first | (simp_all; done) | (simp_all; omega))
      · rw [if_neg h0] at h29 h28 hr hli1
        rw [if_pos h0] at h26
        repeat' (first
          | ((with_reducible apply nrm); (· simp only [sbe]; rfl))
          | ((with_reducible apply u_chk); (· rfl))
          | ((with_reducible apply u_eaddr); (· rfl); (· rfl); (· first | exact eaddr_get hi rfl); (· simp only [sbe]; rfl))
          | ((with_reducible apply u_lenL); (· rfl); (· exact lenL_map); (· simp only [sbe]; rfl))
          | ((with_reducible apply u_inc); (· rfl); (· omega); (· simp only [sbe]; rfl))
          | ((with_reducible apply u_pred); (· rfl); (· omega); (· simp only [sbe]; rfl))
          | ((with_reducible apply u_add); (· rfl); (· rfl); (· omega); (· simp only [sbe]; rfl))
          | ((with_reducible apply u_sub); (· rfl); (· rfl); (· omega); (· simp only [sbe]; rfl))
          | ((with_reducible apply u_ev); (· rfl); (· simp only [sbe]; rfl))
          | ((with_reducible apply u_call); (· rfl); (· rfl); (· first | exact h25 | exact h29 | exact h28); (· rfl); (· simp only [sbe]; rfl))
          | ((with_reducible apply u_wcall); (· rfl); (· rfl); (· first | exact h26); (· rfl); (· simp only [sbe]; rfl))
          | ((with_reducible apply u_or); (· rfl))
          | (with_reducible refine u_join ?_)
          | ((with_reducible apply u_jump); (· rfl); (· rfl))
          | (with_reducible refine at_jump ?_)
          | (with_reducible refine over_jump (by decide) ?_)
          | (with_reducible refine kj rfl ?_)
          | ((with_reducible apply u_ite); (· rfl); all_goals (intro hz; (try simp only [sbs] at hz); first | (exact absurd hz (by decide)) | (exfalso; omega) | skip))
          | (with_reducible exact u_ret rfl rfl)
          | ((with_reducible apply u_ret); (· rfl); first | exact rfl | (refine retB ?_) | (refine retI ?_) | (refine retD ?_))
          | ((with_reducible intro hz); (try simp only [sbs] at hz)))
        all_goals first | exact hr | skip
    · have k16' := known_spec (st l.length).bs
      repeat' (first
        | ((with_reducible apply nrm); (· simp only [sbe]; rfl))
        | ((with_reducible apply u_chk); (· rfl))
        | ((with_reducible apply u_lenL); (· rfl); (· exact lenL_map); (· simp only [sbe]; rfl))
        | ((with_reducible apply u_inc); (· rfl); (· omega); (· simp only [sbe]; rfl))
        | ((with_reducible apply u_pred); (· rfl); (· omega); (· simp only [sbe]; rfl))
        | ((with_reducible apply u_add); (· rfl); (· rfl); (· omega); (· simp only [sbe]; rfl))
        | ((with_reducible apply u_sub); (· rfl); (· rfl); (· omega); (· simp only [sbe]; rfl))
        | ((with_reducible apply u_ev); (· rfl); (· simp only [sbe]; rfl))
        | ((with_reducible apply u_call); (· rfl); (· rfl); (· first | exact k16'); (· rfl); (· simp only [sbe]; rfl))
        | ((with_reducible apply u_or); (· rfl))
        | (with_reducible refine u_join ?_)
        | ((with_reducible apply u_jump); (· rfl); (· rfl))
        | (with_reducible refine at_jump ?_)
        | (with_reducible refine over_jump (by decide) ?_)
        | (with_reducible refine kj rfl ?_)
        | ((with_reducible apply u_ite); (· rfl); all_goals (intro hz; (try simp only [sbs] at hz); first | (exact absurd hz (by decide)) | (exfalso; omega) | skip))
        | (with_reducible exact u_ret rfl rfl)
        | ((with_reducible apply u_ret); (· rfl); first | exact rfl | (refine retB ?_) | (refine retI ?_) | (refine retD ?_))
        | ((with_reducible intro hz); (try simp only [sbs] at hz)))

end Go.Am.Ct

/-
  Arguments of laws.
-/
namespace Go.Am.Ct
open Go.Am.Ap

def ActsOk (l : List Akt) : Prop := (∀ a, a ∈ l → a.Ok) ∧ l.length ≤ maxLen

theorem ofActs : ∀ {es : List D}, (∀ x, x ∈ es → ∃ cs, x = .agg cs ∧ OfSh shAct cs) → ∃ xs : List Akt, es = xs.map Akt.d ∧ ∀ a, a ∈ xs → a.Ok
  | [], _ => ⟨[], rfl, by simp⟩
  | e :: es, h => by
    obtain ⟨cs, rfl, h1⟩ := h e (by simp)
    obtain ⟨a, ha, ho⟩ := ofAct h1
    obtain ⟨xs, rfl, hx⟩ := ofActs (es := es) fun x hx => h x (by simp [hx])
    exact ⟨a :: xs, by rw [ha]; rfl, by simpa using ⟨ho, hx⟩⟩

theorem argActs {x : D} (h : ArgSh (.sl shAct) x) : ∃ l : List Akt, x = Rec l ∧ ActsOk l := by
  have h := h.2 rfl
  simp only [OfSh] at h
  obtain ⟨es, hx, hl, hes⟩ := h
  cases hx
  obtain ⟨xs, rfl, ho⟩ := ofActs fun x hx => (hes x hx).1 rfl
  exact ⟨xs, rfl, ho, by simpa using hl⟩

theorem ofArt {cs : List D} (h : OfSh shArt cs) : ∃ a : Art, .agg cs = a.d ∧ a.Ok := by
  simp only [shArt, OfSh, OfAll] at h
  have cv : ∀ {ds : List D}, (∃ n : Int, ds = [.v (.int .i64 n)] ∧ IntKind.i64.min ≤ n ∧ n ≤ IntKind.i64.max) → ∃ n, ds = [I n] ∧ Ap.i64 n := fun h => ofI (by simpa only [OfSh] using h)
  obtain ⟨_, _, rfl, h1, _, _, rfl, h2, _, _, rfl, h3, _, _, rfl, h4, rfl⟩ := h
  obtain ⟨n, rfl, b1⟩ := cv h1
  obtain ⟨f, rfl, b2⟩ := cv h2
  obtain ⟨l, rfl, b3⟩ := cv h3
  obtain ⟨m, rfl, b4⟩ := cv h4
  exact ⟨⟨n, f, l, m⟩, rfl, b1, b2, b3, b4⟩

theorem ofArts : ∀ {es : List D}, (∀ x, x ∈ es → ∃ cs, x = .agg cs ∧ OfSh shArt cs) → ∃ xs : List Art, es = xs.map Art.d ∧ ∀ a, a ∈ xs → a.Ok
  | [], _ => ⟨[], rfl, by simp⟩
  | e :: es, h => by
    obtain ⟨cs, rfl, h1⟩ := h e (by simp)
    obtain ⟨a, ha, ho⟩ := ofArt h1
    obtain ⟨xs, rfl, hx⟩ := ofArts (es := es) fun x hx => h x (by simp [hx])
    exact ⟨a :: xs, by rw [ha]; rfl, by simpa using ⟨ho, hx⟩⟩

theorem argCode {x : D} (h : ArgSh shCode x) : ∃ c : Cod, x = c.d ∧ c.Ok := by
  obtain ⟨cs, rfl, hh⟩ := h.1 rfl
  simp only [shCode, OfSh, OfAll] at hh
  have cv : ∀ {ds : List D}, (∃ n : Int, ds = [.v (.int .i64 n)] ∧ IntKind.i64.min ≤ n ∧ n ≤ IntKind.i64.max) → ∃ n, ds = [I n] ∧ Ap.i64 n := fun h => ofI (by simpa only [OfSh] using h)
  obtain ⟨_, _, rfl, h1, _, _, rfl, ⟨es, rfl, hl, hes⟩, _, _, rfl, h3, _, _, rfl, h4, _, _, rfl, h5, _, _, rfl, h6, rfl⟩ := hh
  obtain ⟨a, rfl, b1⟩ := cv h1
  obtain ⟨w, rfl, b3⟩ := cv h3
  obtain ⟨s, rfl, b4⟩ := cv h4
  obtain ⟨f, rfl, b5⟩ := cv h5
  obtain ⟨p, rfl, b6⟩ := cv h6
  obtain ⟨xs, rfl, hx⟩ := ofArts fun x hx => (hes x hx).1 rfl
  exact ⟨⟨a, xs, w, s, f, p⟩, rfl, b1, b3, b4, b5, b6, hx, by simpa using hl⟩

end Go.Am.Ct
