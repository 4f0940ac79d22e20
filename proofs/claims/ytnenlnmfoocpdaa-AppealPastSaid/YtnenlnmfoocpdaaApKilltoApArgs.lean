/-
  Several texts, one behind the other.
-/
import Derived.Test.YtnenlnmfoocpdaaApCourt3toApDo
import Derived.Test.YtnenlnmfoocpdaaAmKill
import Derived.Test.YtnenlnmfoocpdaaApU3toApStep
set_option linter.unusedSimpArgs false
set_option linter.unusedVariables false
/-
 A court's blocks hold no loop's round.
-/
namespace Go.Am.Ct
open Go.Proofs Go.Am.Ap

variable {bs : List D} {j : Nat} {c : Cod} {l : List Akt} {a : Akt} {F : Nat → Prop}

theorem noyls_app : ∀ {a b : List D}, noyls (a ++ b) = (noyls a && noyls b)
 | [], b => by simp [noyls]
 | x :: r, b => by simp [noyls, noyls_app (a := r), Bool.and_assoc]

theorem noyls_all : ∀ {ds : List D}, (∀ d, d ∈ ds → d.noyl = true) → noyls ds = true
 | [], _ => by simp [noyls]
 | x :: r, h => by simp [noyls, h x (by simp), noyls_all (ds := r) fun d hd => h d (by simp [hd])]

theorem noyls_map {α : Type} {f : α → D} {xs : List α} (h : ∀ x, x ∈ xs → (f x).noyl = true) : noyls (xs.map f) = true :=
 noyls_all fun d hd => by
  obtain ⟨x, hx, rfl⟩ := List.mem_map.1 hd
  exact h x hx

theorem noyls_flat {α : Type} {f : α → List D} {xs : List α} (h : ∀ x, x ∈ xs → noyls (f x) = true) : noyls (xs.flatMap f) = true := by
 induction xs with
 | nil => simp [noyls]
 | cons x r ih => rw [List.flatMap_cons, noyls_app, h x (by simp), ih fun y hy => h y (by simp [hy])]; rfl

theorem akt_noyl (a : Akt) : noyls a.cs = true := by
 simp [Akt.cs, noyls, D.noyl]
 exact noyls_map fun x _ => rfl

theorem _root_.Go.Am.SlOf.noyl {α : Type} {e : TypeId} {sz : Nat} {enc : α → List D} {s : D} {xs : List α} (h : SlOf bs e sz enc s xs) : s.noyl = true := by
 rcases h with ⟨_, rfl⟩ | ⟨i, rfl, _⟩ <;> rfl

theorem _root_.Go.Am.SlOf.kill {α : Type} {e : TypeId} {sz : Nat} {enc : α → List D} {s : D} {xs : List α} (h : SlOf bs e sz enc s xs) (hn : ∀ x, x ∈ xs → noyls (enc x) = true) : SlOf (kill bs) e sz enc s xs := by
 rcases h with h | ⟨i, rfl, h⟩
 ·exact .inl h
 ·exact .inr ⟨i, rfl, kill_get h (by simpa [D.noyl] using noyls_flat hn)⟩

theorem crtCells_noyl {sa sf : D} (ha : sa.noyl = true) (hf : sf.noyl = true) : noyls (crtCells c sa sf) = true := by
 have : noyls (c.arts.map Art.d) = true := noyls_map fun x _ => by simp [Art.d, D.noyl, noyls]
 simp [crtCells, noyls, D.noyl, ha, hf, this]

theorem ActsAt.kill {sa sf : D} (h : ActsAt bs j c l sa sf) (hf : sf.noyl = true) : ActsAt (kill bs) j c l sa sf :=
 ⟨kill_get h.1 (by simpa [D.noyl] using crtCells_noyl h.2.noyl hf), h.2.kill fun x _ => akt_noyl x⟩

theorem Crt.kill {q : List (Nat × List Nat)} {sa sf : D} {fs : List (Int × D)} (h : Crt bs F j c l q sa sf fs) : Crt (kill bs) F j c l q sa sf fs where
 acts := h.acts.kill h.files.noyl
 files := h.files.kill fun f hf => by
  obtain ⟨k, hk, rfl⟩ := List.mem_iff_getElem.1 hf
  have hkq : k < q.length := by have := h.len; omega
  obtain ⟨s, h1, h2⟩ := h.case k q[k].1 q[k].2 (List.getElem?_eq_getElem hkq)
  rw [List.getElem?_eq_getElem hk, Option.some.injEq] at h1
  rw [h1]
  simp [fcs, noyls, D.noyl, h2.noyl]
 len := h.len
 case := fun k p idx hq => by
  obtain ⟨s, h1, h2⟩ := h.case k p idx hq
  exact ⟨s, h1, h2.kill fun x _ => by simp [ncs, noyls, D.noyl]⟩
 inj := h.inj
 fj := h.fj
 fa := h.fa
 ff := h.ff
 fc := h.fc
 lt := fun k hk => by rw [kill_len]; exact h.lt k hk

theorem Court.kill (h : Court bs F j c l) : Court (kill bs) F j c l := by
 obtain ⟨sa, sf, fs, h⟩ := h
 exact ⟨sa, sf, fs, h.kill⟩

theorem kill_self {bs : List D} (h : noyls bs = true) : Go.Am.kill bs = bs := by
 unfold Go.Am.kill
 refine (List.map_congr_left fun x hx => ?_).trans (List.map_id bs)
 obtain ⟨i, hi, rfl⟩ := List.mem_iff_getElem.1 hx
 unfold killD
 rw [if_pos (noyls_get h (List.getElem?_eq_getElem hi))]
 rfl

theorem stp_kill {bs' : List D} {F' : Nat → Prop} (hn : noyls bs = true) (h : Stp bs F bs' F') : Stp bs F (Go.Am.kill bs') F' where
 len := by rw [kill_len]; exact h.len
 old := fun k hk hf => by
  have h1 := h.old k hk hf
  rw [List.getElem?_eq_getElem hk] at h1 ⊢
  exact kill_get h1 (noyls_get hn (List.getElem?_eq_getElem hk))
 new := h.new

end Go.Am.Ct

/-
 What the laws on courts share; the law on acts.
-/
namespace Go.Am.Ct
open Go.Proofs Go.Am.Ap
set_option maxRecDepth 100000
set_option maxHeartbeats 4000000

variable {bs : List D} {j : Nat} {c : Cod} {l : List Akt} {a : Akt} {F : Nat → Prop}

attribute [local irreducible] inR

def Fac (l : List Akt) : Prop := ∀ a, a ∈ l → a.facts.length ≤ 1000000

theorem c29 {sa sf : D} (h : ActsAt bs j c l sa sf) (hL : l.length ≤ 1000000) (hf : Fac l) : FSpecR Try.prog 29 (.st bs) [.loc j 0] (Rec l) := by
 refine ku29.R rfl rfl ?_
 unfold u29
 simp only [ups_cons, ups_nil, List.cons_append, List.nil_append]
 repeat' (first | ((with_reducible apply u_chk); (· rfl)) | ((with_reducible apply u_ld); (· rfl); (· rfl); (· exact ld_blk h.1 rfl); (· simp only [sbe]; rfl)) | ((with_reducible apply u_lenL); (· rfl); (· exact h.2.len); (· simp only [sbe]; rfl)) | ((with_reducible apply u_ev); (· rfl); (· simp only [sbe]; rfl)) | ((with_reducible apply u_call); (· rfl); (· rfl); (· exact c61 h); (· rfl); (· simp only [sbe]; rfl)) | (with_reducible refine u_join ?_) | ((with_reducible apply u_ite); (· rfl); all_goals (intro hz; (try simp only [sbs] at hz); first | (exact absurd hz (by decide)) | (exfalso; omega) | skip)))
 refine u_range (fun i => [Rec (l.take i), I i]) (fun _ => True) l.length rfl (fun _ => rfl) trivial (fun i hi _ R hR => ?_) (fun _ R => ?_)
 ·obtain ⟨b, rfl, hb⟩ := h.2.get hi
  have hfi := hf _ (List.getElem_mem hi)
  have hlt : (l.take i).length = i := by simp; omega
  have hm : (l.take i).length + 1 ≤ maxLen := by unfold maxLen; omega
  repeat' (first | ((with_reducible apply nrm); (· simp only [sbe]; rfl)) | ((with_reducible apply u_chk); (· rfl)) | ((with_reducible apply u_ld); (· rfl); (· rfl); (· exact ld_el hb (fun _ => rfl) (List.getElem?_eq_getElem hi)); (· simp only [sbe]; rfl)) | ((with_reducible apply u_eaddr); (· rfl); (· rfl); (· exact eaddr_sl hi); (· simp only [sbe]; rfl)) | ((with_reducible apply u_app); (· rfl); (· rfl); (· exact app1_lst (enc := Akt.d) (a := l[i]) (by omega) hm (fun _ => rfl)); (· simp only [sbe]; rfl)) | ((with_reducible apply u_inc); (· rfl); (· omega); (· simp only [sbe]; rfl)) | ((with_reducible apply u_ev); (· rfl); (· simp only [sbe]; rfl)) | ((with_reducible apply u_call); (· rfl); (· rfl); (· exact c70 _ hfi); (· rfl); (· simp only [sbe]; rfl)) | (with_reducible refine u_join ?_) | ((with_reducible apply u_jump); (· rfl); (· rfl)) | (with_reducible refine at_jump ?_) | (with_reducible refine kj rfl ?_) | ((with_reducible apply u_ite); (· rfl); all_goals (intro hz; (try simp only [sbs] at hz); first | (exact absurd hz (by decide)) | (exfalso; omega) | skip)))
  have hr := hR trivial
  rw [List.take_succ_eq_append_getElem hi] at hr
  exact hr
 ·repeat' (first | ((with_reducible apply nrm); (· simp only [sbe]; rfl)) | ((with_reducible apply u_ev); (· rfl); (· simp only [sbe]; rfl)) | ((with_reducible apply u_jump); (· rfl); (· rfl)) | (with_reducible refine at_jump ?_) | (with_reducible refine over_jump (by decide) ?_) | (with_reducible refine kj rfl ?_) | ((with_reducible apply u_ite); (· rfl); all_goals (intro hz; (try simp only [sbs] at hz); first | (exact absurd hz (by decide)) | (exfalso; omega) | skip)) | ((with_reducible apply u_ret); (· rfl); first | exact rfl | (refine retB ?_) | (refine retI ?_) | (refine retD ?_)))
  rw [List.take_length]

theorem c22 (l : List Akt) : ∃ b, FSpecR Try.prog 22 (.st bs) [Rec l, I 25] (B b) ∧ (b = true → l.length ≤ 25 ∧ ∀ a, a ∈ l → a.facts.length ≤ 25) := by
 by_cases hh : ∀ i (h : i < l.length), i ≤ 25 → l[i].facts.length ≤ 25
 ·refine ⟨decide ((l.length : Int) ≤ 25), ?_, fun h => ?_⟩
  ·refine ku22.R rfl rfl ?_
   unfold u22
   simp only [ups_cons, ups_nil, List.cons_append, List.nil_append]
   repeat' ((with_reducible refine u_join ?_))
   refine u_list l (fun (_ : Unit) i => [I i]) (fun _ _ => True) () rfl (fun _ _ => rfl) trivial (fun i x _ hx hlt _ R hR => ?_) (fun _ _ R => ?_)
   ·have hxi := hh i hlt
    obtain ⟨_, rfl⟩ := List.getElem?_eq_some_iff.1 hx
    repeat' (first | ((with_reducible apply nrm); (· simp only [sbe]; rfl)) | ((with_reducible apply u_chk); (· rfl)) | ((with_reducible apply u_eaddr); (· rfl); (· rfl); (· exact eaddr_get hlt rfl); (· simp only [sbe]; rfl)) | ((with_reducible apply u_lenL); (· rfl); (· exact lenL_map); (· simp only [sbe]; rfl)) | ((with_reducible apply u_inc); (· rfl); (· omega); (· simp only [sbe]; rfl)) | ((with_reducible apply u_ev); (· rfl); (· simp only [sbe]; rfl)) | ((with_reducible apply u_and); (· rfl)) | (with_reducible refine u_join ?_) | ((with_reducible apply u_jump); (· rfl); (· rfl)) | (with_reducible refine at_jump ?_) | (with_reducible refine over_jump (by decide) ?_) | (with_reducible refine kj rfl ?_) | ((with_reducible apply u_ite); (· rfl); all_goals (intro hz; (try simp only [sbs] at hz); first | (exact absurd hz (by decide)) | (exfalso; omega) | skip)) | (with_reducible exact u_ret rfl rfl) | ((with_reducible intro hz); (try simp only [sbs] at hz)))
    exact hR () trivial
   ·repeat' (first | ((with_reducible apply nrm); (· simp only [sbe]; rfl)) | ((with_reducible apply u_lenL); (· rfl); (· exact lenL_map); (· simp only [sbe]; rfl)) | ((with_reducible apply u_ev); (· rfl); (· simp only [sbe]; rfl)) | ((with_reducible apply u_and); (· rfl)) | ((with_reducible apply u_jump); (· rfl); (· rfl)) | (with_reducible refine at_jump ?_) | (with_reducible refine over_jump (by decide) ?_) | (with_reducible refine kj rfl ?_) | ((with_reducible apply u_ite); (· rfl); all_goals (intro hz; (try simp only [sbs] at hz); first | (exact absurd hz (by decide)) | (exfalso; omega) | skip)) | (with_reducible exact u_ret rfl rfl) | ((with_reducible intro hz); (try simp only [sbs] at hz)))
  ·have hl : l.length ≤ 25 := Int.ofNat_le.1 (by simpa using h)
   refine ⟨hl, fun a ha => ?_⟩
   obtain ⟨i, hi, rfl⟩ := List.mem_iff_getElem.1 ha
   exact hh i hi (by omega)
 ·refine ⟨false, ?_, fun h => by cases h⟩
  refine ku22.R rfl rfl ?_
  unfold u22
  simp only [ups_cons, ups_nil, List.cons_append, List.nil_append]
  repeat' ((with_reducible refine u_join ?_))
  refine u_range (fun i => [I i]) (fun i => ∀ k (h : k < i) (h2 : k < l.length), k ≤ 25 → l[k].facts.length ≤ 25) l.length rfl (fun _ => rfl) (fun k h => absurd h (Nat.not_lt_zero _)) (fun i hi hJ R hR => ?_) (fun hJ R => ?_)
  ·repeat' (first | ((with_reducible apply nrm); (· simp only [sbe]; rfl)) | ((with_reducible apply u_chk); (· rfl)) | ((with_reducible apply u_eaddr); (· rfl); (· rfl); (· exact eaddr_get hi rfl); (· simp only [sbe]; rfl)) | ((with_reducible apply u_lenL); (· rfl); (· exact lenL_map); (· simp only [sbe]; rfl)) | ((with_reducible apply u_inc); (· rfl); (· omega); (· simp only [sbe]; rfl)) | ((with_reducible apply u_ev); (· rfl); (· simp only [sbe]; rfl)) | ((with_reducible apply u_and); (· rfl)) | (with_reducible refine u_join ?_) | ((with_reducible apply u_jump); (· rfl); (· rfl)) | (with_reducible refine at_jump ?_) | (with_reducible refine over_jump (by decide) ?_) | (with_reducible refine kj rfl ?_) | ((with_reducible apply u_ite); (· rfl); all_goals (intro hz; (try simp only [sbs] at hz); first | (exact absurd hz (by decide)) | (exfalso; omega) | skip)) | (with_reducible exact u_ret rfl rfl) | ((with_reducible apply u_ret); (· rfl); first | exact rfl | (refine retB ?_) | (refine retI ?_) | (refine retD ?_)) | ((with_reducible intro hz); (try simp only [sbs] at hz)))
   ·refine hR fun k hk h2 h3 => ?_
    rcases Nat.lt_or_ge k i with h4 | h4
    ·exact hJ k h4 h2 h3
    ·have e : k = i := by omega
     subst e
     omega
   ·simp
    omega
  ·exact absurd (fun i h => hJ i h h) hh

def rightB (c : Cod) (car minute : Int) : Bool := decide (1 ≤ car) && decide (car ≤ c.cars) && decide (0 ≤ minute) && decide (minute ≤ 10000000)

theorem c34 (car minute : Int) : FSpecR Try.prog 34 (.st bs) [c.d, I car, I minute] (B (rightB c car minute)) := by
 refine ku34.R rfl rfl ?_
 unfold u34
 simp only [ups_cons, ups_nil, List.cons_append, List.nil_append]
 repeat' (first | ((with_reducible apply nrm); (· simp only [sbe]; rfl)) | ((with_reducible apply u_chk); (· rfl)) | ((with_reducible apply u_ev); (· rfl); (· simp only [sbe]; rfl)) | ((with_reducible apply u_and); (· rfl)) | (with_reducible exact u_ret rfl rfl) | ((with_reducible intro hz); (try simp only [sbs] at hz)))

theorem c24 (ho : okCode c = true) : FSpecW Try.prog 24 (.st bs) [c.d] (.tup [.loc bs.length 0, I 0]) (.st (bs ++ [.blk 99 9 (crtCells c .snil .snil)])) := by
 have hc := codOk_of ho
 have k41 := c41 (bs := bs) c
 rw [ho] at k41
 have k56 := c56 (bs := bs) c.arts (by have := hc.arts; omega)
 refine ku24.W rfl ?_
 unfold u24
 simp only [ups_cons, ups_nil, List.cons_append, List.nil_append]
 repeat' (first | ((with_reducible apply u_iteF); (· rfl); (· exact rfl)) | ((with_reducible apply u_chk); (· rfl)) | ((with_reducible apply u_ev); (· rfl); (· simp only [sbe]; rfl)) | ((with_reducible apply u_call); (· rfl); (· rfl); (· first | exact k41 | exact k56); (· rfl); (· simp only [sbe]; rfl)) | (with_reducible exact u_ret rfl rfl))

theorem open_court (bs : List D) (c : Cod) : Court (bs ++ [.blk 99 9 (crtCells c .snil .snil)]) (fun k => k = bs.length) bs.length c [] :=
 ⟨.snil, .snil, [], ⟨by simp, SlOf.nil⟩, SlOf.nil, rfl, fun k p idx h => (by simp [qOf, pro, prot] at h), fun k k' f f' i h => (by simp at h), rfl, fun i h => (by cases h), fun i h => (by cases h), fun k f i h => (by simp at h), fun k h => (by simp; omega)⟩

theorem acc_nil (c : Cod) : Acc c [] := fun i h => by simp at h

theorem acc_do (h : Acc c l) (a : Akt) : Acc c (doL c l a) := by
 unfold doL
 split
 ·exact acc_snoc.2 ⟨h, by assumption⟩
 ·exact h

theorem fac_do (h : Fac l) (ha : a.facts.length ≤ 1000000) : Fac (doL c l a) := by
 unfold doL
 split
 ·intro b hb
  rcases List.mem_append.1 hb with hb | hb
  ·exact h b hb
  ·simp at hb; rw [hb]; exact ha
 ·exact h

theorem len_do : (doL c l a).length ≤ l.length + 1 := by unfold doL; split <;> simp

structure CS (c : Cod) (j : Nat) where
 bs : List D
 F : Nat → Prop
 l : List Akt
 acc : Acc c l
 fac : Fac l
 crt : Court bs F j c l
 ny : noyls bs = true

noncomputable def CS.step (hc : CodOk c) (s : CS c j) (a : Akt) : CS c j :=
  if h : a.facts.length ≤ 1000000 then
    { bs := kill (Classical.choose (c26 s.acc hc s.crt a h))
      F := Classical.choose (Classical.choose_spec (c26 s.acc hc s.crt a h))
      l := doL c s.l a
      acc := acc_do s.acc a
      fac := fac_do s.fac h
      crt := Court.kill (Classical.choose_spec (Classical.choose_spec (c26 s.acc hc s.crt a h))).2.2
      ny := kill_noyl _ }
  else s

theorem CS.step_l (hc : CodOk c) (s : CS c j) {a : Akt} (h : a.facts.length ≤ 1000000) : (s.step hc a).l = doL c s.l a := by
  unfold CS.step; rw [dif_pos h]
theorem CS.step_do (hc : CodOk c) (s : CS c j) {a : Akt} (h : a.facts.length ≤ 1000000) : FSpecWO Try.prog 26 (.st s.bs) [.loc j 0, a.d] (.ret (.tup [I (doN c s.l a), I (refused c s.l a)])) (.st (s.step hc a).bs) := by
  unfold CS.step; rw [dif_pos h]
  exact FSpecWO.kill (Classical.choose_spec (Classical.choose_spec (c26 s.acc hc s.crt a h))).1
theorem CS.step_stp (hc : CodOk c) (s : CS c j) {a : Akt} (h : a.facts.length ≤ 1000000) : Stp s.bs s.F (s.step hc a).bs (s.step hc a).F := by
  unfold CS.step; rw [dif_pos h]
  exact stp_kill s.ny (Classical.choose_spec (Classical.choose_spec (c26 s.acc hc s.crt a h))).2.1

noncomputable def CS.run (hc : CodOk c) (s : CS c j) (l : List Akt) : CS c j := l.foldl (CS.step hc) s

theorem CS.run_snoc (hc : CodOk c) (s : CS c j) (l : List Akt) (a : Akt) : s.run hc (l ++ [a]) = (s.run hc l).step hc a := by simp [CS.run]

theorem CS.run_stp (hc : CodOk c) (s : CS c j) : ∀ l : List Akt, Fac l → Stp s.bs s.F (s.run hc l).bs (s.run hc l).F := by
 refine snocInd ?_ ?_
 ·intro _; exact Stp.refl _ _
 ·intro l a ih h
  rw [CS.run_snoc]
  exact (ih fun b hb => h b (by simp [hb])).trans (CS.step_stp hc _ (h a (by simp)))

def CS.new (bs : List D) (c : Cod) : CS c bs.length := ⟨kill (bs ++ [.blk 99 9 (crtCells c .snil .snil)]), fun k => k = bs.length, [], acc_nil c, fun _ h => (by cases h), Court.kill (open_court bs c), kill_noyl _⟩

theorem c24n (ho : okCode c = true) : FSpecW Try.prog 24 (.st bs) [c.d] (.tup [.loc bs.length 0, I 0]) (.st (CS.new bs c).bs) := FSpecWO.kill (c24 ho)

def recOf (c : Cod) (l r : List Akt) : List Akt := r.foldl (doL c) l

theorem recOf_snoc (c : Cod) (l r : List Akt) (a : Akt) : recOf c l (r ++ [a]) = doL c (recOf c l r) a := by simp [recOf]

theorem CS.run_l (hc : CodOk c) (s : CS c j) : ∀ r : List Akt, Fac r → (s.run hc r).l = recOf c s.l r := by
 refine snocInd ?_ ?_
 ·intro _; rfl
 ·intro r a ih h
  rw [CS.run_snoc, recOf_snoc, CS.step_l hc _ (h a (by simp)), ih fun b hb => h b (by simp [hb])]

theorem recOf_len (c : Cod) : ∀ (r l : List Akt), (recOf c l r).length ≤ l.length + r.length := by
 refine snocInd ?_ ?_
 ·intro l; simp [recOf]
 ·intro r a ih l
  rw [recOf_snoc]
  have := ih l
  have h2 := len_do (c := c) (l := recOf c l r) (a := a)
  simp
  omega

theorem fac_take {l : List Akt} (h : Fac l) (i : Nat) : Fac (l.take i) := fun a ha => h a (List.mem_of_mem_take ha)

theorem take_one {l : List Akt} {i : Nat} (h : i < l.length) : l.take (i + 1) = l.take i ++ [l[i]] := List.take_succ_eq_append_getElem h

end Go.Am.Ct

/-
 A court that has done acts; states.
-/
namespace Go.Am.Ct
open Go.Proofs Go.Am.Ap
set_option maxRecDepth 100000
set_option maxHeartbeats 4000000

variable {bs : List D} {j : Nat} {c : Cod} {l : List Akt} {a : Akt} {F : Nat → Prop}

attribute [local irreducible] inR

theorem acc_rec {c : Cod} : ∀ (r l : List Akt), Acc c l → Acc c (recOf c l r) := by
 refine snocInd (fun l h => h) fun r a ih l h => ?_
 rw [recOf_snoc]
 exact acc_do (ih l h) a

abbrev rec (c : Cod) (l : List Akt) : List Akt := recOf c [] l

def errAt (c : Cod) (l : List Akt) (i : Nat) : Int := refused c (rec c (l.take i)) (nth l i)
def errs (c : Cod) (l : List Akt) (n : Nat) : List Int := (List.range n).map (errAt c l)

theorem rec_len (c : Cod) (l : List Akt) : (rec c l).length ≤ l.length := by
 have := recOf_len c l []
 simpa using this

theorem rec_take {i : Nat} (h : i < l.length) : rec c (l.take (i + 1)) = doL c (rec c (l.take i)) (nth l i) := by
 rw [take_one h, ← nth_get h]
 exact recOf_snoc c [] _ _

theorem mins_rec (c : Cod) (l : List Akt) : Mins (rec c l) := (inv_of _ (acc_rec l [] (acc_nil c))).mins

theorem c43 (hc : CodOk c) (hL : l.length ≤ 1000000) (hF : Fac l) : FSpecR Try.prog 43 (.st bs) [c.d, Rec l] (.tup [Rec (rec c l), Is (errs c l l.length)]) := by
 refine ku43.R rfl rfl ?_
 unfold u43
 simp only [ups_cons, ups_nil, List.cons_append, List.nil_append]
 repeat' (first | ((with_reducible apply u_chk); (· rfl)) | (with_reducible refine u_join ?_))
 refine u_range (fun i => [Rec (rec c (l.take i)), Is (errs c l i), I i]) (fun _ => True) l.length rfl (fun _ => rfl) trivial (fun i hi _ R hR => ?_) (fun _ R => ?_)
 ·have hr := hR trivial
  have hfi := hF _ (List.getElem_mem hi)
  have hlr := rec_len c (l.take i)
  have hti : (l.take i).length = i := by simp; omega
  have hca := hc.arts
  have h25 := c25 (bs := bs) (c := c) (l := rec c (l.take i)) (by omega) (by omega) (mins_rec c _) l[i] hfi
  have hel : (errs c l i).length = i := by simp [errs]
  have hm1 : (rec c (l.take i)).length + 1 ≤ maxLen := by unfold maxLen; omega
  have hm2 : (errs c l i).length + 1 ≤ maxLen := by unfold maxLen; omega
  have he : errs c l (i + 1) = errs c l i ++ [refused c (rec c (l.take i)) l[i]] := by
   unfold errs
   rw [List.range_succ, List.map_append]
   simp [errAt, nth_get hi]
  rw [rec_take hi, he, nth_get hi] at hr
  unfold doL at hr
  by_cases h0 : refused c (rec c (l.take i)) l[i] = 0
  ·rw [if_pos h0] at hr
   repeat' (first | ((with_reducible apply nrm); (· simp only [sbe]; rfl)) | ((with_reducible apply u_eaddr); (· rfl); (· rfl); (· exact eaddr_get hi rfl); (· simp only [sbe]; rfl)) | ((with_reducible apply u_app); (· rfl); (· rfl); (· first | exact app1_lst (enc := Akt.d) (a := l[i]) (by omega) hm1 (fun _ => rfl) | exact app1_lst (enc := I) (a := refused c (rec c (l.take i)) l[i]) (by omega) hm2 (fun _ => rfl)); (· simp only [sbe]; rfl)) | ((with_reducible apply u_lenL); (· rfl); (· exact lenL_map); (· simp only [sbe]; rfl)) | ((with_reducible apply u_inc); (· rfl); (· omega); (· simp only [sbe]; rfl)) | ((with_reducible apply u_ev); (· rfl); (· simp only [sbe]; rfl)) | ((with_reducible apply u_call); (· rfl); (· rfl); (· exact h25); (· rfl); (· simp only [sbe]; rfl)) | (with_reducible refine u_join ?_) | ((with_reducible apply u_jump); (· rfl); (· rfl)) | (with_reducible refine at_jump ?_) | (with_reducible refine kj rfl ?_) | ((with_reducible apply u_ite); (· rfl); all_goals (intro hz; (try simp only [sbs] at hz); first | (exact absurd hz (by decide)) | (exfalso; omega) | skip)))
   exact hr
  ·rw [if_neg h0] at hr
   repeat' (first | ((with_reducible apply nrm); (· simp only [sbe]; rfl)) | ((with_reducible apply u_eaddr); (· rfl); (· rfl); (· exact eaddr_get hi rfl); (· simp only [sbe]; rfl)) | ((with_reducible apply u_app); (· rfl); (· rfl); (· exact app1_lst (enc := I) (a := refused c (rec c (l.take i)) l[i]) (by omega) hm2 (fun _ => rfl)); (· simp only [sbe]; rfl)) | ((with_reducible apply u_lenL); (· rfl); (· exact lenL_map); (· simp only [sbe]; rfl)) | ((with_reducible apply u_inc); (· rfl); (· omega); (· simp only [sbe]; rfl)) | ((with_reducible apply u_ev); (· rfl); (· simp only [sbe]; rfl)) | ((with_reducible apply u_call); (· rfl); (· rfl); (· exact h25); (· rfl); (· simp only [sbe]; rfl)) | (with_reducible refine u_join ?_) | ((with_reducible apply u_jump); (· rfl); (· rfl)) | (with_reducible refine at_jump ?_) | (with_reducible refine kj rfl ?_) | ((with_reducible apply u_ite); (· rfl); all_goals (intro hz; (try simp only [sbs] at hz); first | (exact absurd hz (by decide)) | (exfalso; omega) | skip)))
   exact hr
 ·repeat' (first | ((with_reducible apply nrm); (· simp only [sbe]; rfl)) | ((with_reducible apply u_lenL); (· rfl); (· exact lenL_map); (· simp only [sbe]; rfl)) | ((with_reducible apply u_ev); (· rfl); (· simp only [sbe]; rfl)) | ((with_reducible apply u_jump); (· rfl); (· rfl)) | (with_reducible refine at_jump ?_) | (with_reducible refine over_jump (by decide) ?_) | (with_reducible refine kj rfl ?_) | ((with_reducible apply u_ite); (· rfl); all_goals (intro hz; (try simp only [sbs] at hz); first | (exact absurd hz (by decide)) | (exfalso; omega) | skip)) | ((with_reducible apply u_ret); (· rfl); first | exact rfl | (refine retB ?_) | (refine retI ?_) | (refine retD ?_)))
  rw [List.take_length]

noncomputable abbrev crt (hc : CodOk c) (bs : List D) (l : List Akt) : CS c bs.length := (CS.new bs c).run hc l

theorem crt_l (hc : CodOk c) (bs : List D) (hF : Fac l) : (crt hc bs l).l = rec c l := CS.run_l hc _ l hF

theorem crt_take (hc : CodOk c) (bs : List D) {i : Nat} (h : i < l.length) : crt hc bs (l.take (i + 1)) = (crt hc bs (l.take i)).step hc l[i] := by
 rw [take_one h]
 exact CS.run_snoc hc _ _ _

theorem errs_get {n i : Nat} (h : i < n) : (errs c l n)[i]? = some (errAt c l i) := by simp [errs, h]

theorem c30 (ho : okCode c = true) (hL : l.length ≤ 1000000) (hF : Fac l) : FSpecW Try.prog 30 (.st bs) [c.d, Rec l] (.tup [.loc bs.length 0, Rec (rec c l), B true]) (.st (crt (codOk_of ho) bs l).bs) := by
 have hc := codOk_of ho
 have k24 := c24n (bs := bs) ho
 have k43 := c43 (bs := (CS.new bs c).bs) hc hL hF
 refine ku30.W rfl ?_
 unfold u30
 simp only [ups_cons, ups_nil, List.cons_append, List.nil_append]
 repeat' (first | ((with_reducible apply nrm); (· simp only [sbe]; rfl)) | ((with_reducible apply u_iteF); (· rfl); (· exact rfl)) | ((with_reducible apply u_chk); (· rfl)) | ((with_reducible apply u_ev); (· rfl); (· simp only [sbe]; rfl)) | ((with_reducible apply u_call); (· rfl); (· rfl); (· exact k43); (· rfl); (· simp only [sbe]; rfl)) | ((with_reducible apply u_wcall); (· rfl); (· rfl); (· exact k24); (· rfl); (· simp only [sbe]; rfl)) | ((with_reducible apply u_or); (· rfl)) | (with_reducible refine u_join ?_) | (with_reducible exact u_ret rfl rfl) | ((with_reducible intro hz); (try simp only [sbs] at hz)))
 refine u_range (fun i => [I i, .st (crt hc bs (l.take i)).bs]) (fun _ => True) l.length rfl (fun _ => rfl) trivial (fun i hi _ R hR => ?_) (fun _ R => ?_)
 ·have hr := hR trivial
  have hfi := hF _ (List.getElem_mem hi)
  rw [crt_take hc bs hi] at hr
  have h26 := CS.step_do hc (crt hc bs (l.take i)) hfi
  have hl := crt_l hc bs (fac_take hF i)
  rw [hl] at h26
  have he : (errs c l l.length)[i]? = some (refused c (rec c (l.take i)) l[i]) := by rw [errs_get hi, errAt, nth_get hi]
  repeat' (first | ((with_reducible apply nrm); (· simp only [sbe]; rfl)) | ((with_reducible apply u_eaddr); (· rfl); (· rfl); (· first | exact eaddr_get hi rfl | exact eaddr_lst he rfl); (· simp only [sbe]; rfl)) | ((with_reducible apply u_lenL); (· rfl); (· exact lenL_map); (· simp only [sbe]; rfl)) | ((with_reducible apply u_inc); (· rfl); (· omega); (· simp only [sbe]; rfl)) | ((with_reducible apply u_ev); (· rfl); (· simp only [sbe]; rfl)) | ((with_reducible apply u_wcall); (· rfl); (· rfl); (· exact h26); (· rfl); (· simp only [sbe]; rfl)) | (with_reducible refine u_join ?_) | ((with_reducible apply u_jump); (· rfl); (· rfl)) | (with_reducible refine at_jump ?_) | (with_reducible refine kj rfl ?_) | ((with_reducible apply u_ite); (· rfl); all_goals (intro hz; (try simp only [sbs] at hz); first | (exact absurd hz (by decide)) | (exfalso; omega) | skip)))
  exact hr
 ·rw [List.take_length]
  repeat' (first | ((with_reducible apply nrm); (· simp only [sbe]; rfl)) | ((with_reducible apply u_lenL); (· rfl); (· exact lenL_map); (· simp only [sbe]; rfl)) | ((with_reducible apply u_ev); (· rfl); (· simp only [sbe]; rfl)) | ((with_reducible apply u_jump); (· rfl); (· rfl)) | (with_reducible refine at_jump ?_) | (with_reducible refine over_jump (by decide) ?_) | (with_reducible refine kj rfl ?_) | ((with_reducible apply u_ite); (· rfl); all_goals (intro hz; (try simp only [sbs] at hz); first | (exact absurd hz (by decide)) | (exfalso; omega) | skip)) | (with_reducible exact u_ret rfl rfl))

theorem rec_acc {c : Cod} : ∀ l : List Akt, Acc c l → rec c l = l := by
 refine snocInd (fun _ => rfl) fun l a ih h => ?_
 obtain ⟨h1, h2⟩ := acc_snoc.1 h
 show recOf c [] (l ++ [a]) = _
 rw [recOf_snoc]
 have e : recOf c [] l = l := ih h1
 rw [e]
 unfold doL
 rw [if_pos h2]

theorem acc_take {l : List Akt} (h : Acc c l) (i : Nat) : Acc c (l.take i) := by
 intro k hk
 have hk' : k < l.length ∧ k < i := by simp at hk; omega
 have := h k hk'.1
 rw [List.take_take, Nat.min_eq_left (by omega)]
 have e : nth (l.take i) k = nth l k := by simp [nth, List.getElem?_take, hk'.2]
 rw [e]
 exact this

theorem c42y (ho : okCode c = true) (hL : l.length ≤ 1000000) (hF : Fac l) (hA : Acc c l) : FSpecW Try.prog 42 (.st bs) [c.d, Rec l] (.tup [.loc bs.length 0, I (-1), I 0]) (.st (crt (codOk_of ho) bs l).bs) := by
 have hc := codOk_of ho
 have k24 := c24n (bs := bs) ho
 refine ku42.W rfl ?_
 unfold u42
 simp only [ups_cons, ups_nil, List.cons_append, List.nil_append]
 repeat' (first | ((with_reducible apply u_iteF); (· rfl); (· exact rfl)) | ((with_reducible apply u_chk); (· rfl)) | ((with_reducible apply u_lenL); (· rfl); (· exact lenL_map); (· simp only [sbe]; rfl)) | ((with_reducible apply u_ev); (· rfl); (· simp only [sbe]; rfl)) | ((with_reducible apply u_wcall); (· rfl); (· rfl); (· exact k24); (· rfl); (· simp only [sbe]; rfl)) | (with_reducible refine u_join ?_))
 refine u_range (fun i => [I i, .st (crt hc bs (l.take i)).bs]) (fun _ => True) l.length rfl (fun _ => rfl) trivial (fun i hi _ R hR => ?_) (fun _ R => ?_)
 ·have hr := hR trivial
  have hfi := hF _ (List.getElem_mem hi)
  rw [crt_take hc bs hi] at hr
  have h26 := CS.step_do hc (crt hc bs (l.take i)) hfi
  have hl := crt_l hc bs (fac_take hF i)
  have h0 := hA i hi
  rw [nth_get hi] at h0
  rw [hl, rec_acc _ (acc_take hA i), h0] at h26
  repeat' (first | ((with_reducible apply nrm); (· simp only [sbe]; rfl)) | ((with_reducible apply u_iteF); (· rfl); (· exact rfl)) | ((with_reducible apply u_chk); (· rfl)) | ((with_reducible apply u_eaddr); (· rfl); (· rfl); (· exact eaddr_get hi rfl); (· simp only [sbe]; rfl)) | ((with_reducible apply u_inc); (· rfl); (· omega); (· simp only [sbe]; rfl)) | ((with_reducible apply u_ev); (· rfl); (· simp only [sbe]; rfl)) | ((with_reducible apply u_wcall); (· rfl); (· rfl); (· exact h26); (· rfl); (· simp only [sbe]; rfl)) | (with_reducible refine u_join ?_) | ((with_reducible apply u_jump); (· rfl); (· rfl)) | (with_reducible refine at_jump ?_) | (with_reducible refine kj rfl ?_) | ((with_reducible apply u_ite); (· rfl); all_goals (intro hz; (try simp only [sbs] at hz); first | (exact absurd hz (by decide)) | (exfalso; omega) | skip)))
  exact hr
 ·rw [List.take_length]
  repeat' (first | ((with_reducible apply nrm); (· simp only [sbe]; rfl)) | ((with_reducible apply u_ev); (· rfl); (· simp only [sbe]; rfl)) | ((with_reducible apply u_jump); (· rfl); (· rfl)) | (with_reducible refine at_jump ?_) | (with_reducible refine over_jump (by decide) ?_) | (with_reducible refine kj rfl ?_) | ((with_reducible apply u_ite); (· rfl); all_goals (intro hz; (try simp only [sbs] at hz); first | (exact absurd hz (by decide)) | (exfalso; omega) | skip)) | (with_reducible exact u_ret rfl rfl))

end Go.Am.Ct

/-
 States of cases at a minute.
-/
namespace Go.Am.Ct
open Go.Proofs Go.Am.Ap
set_option maxRecDepth 100000
set_option maxHeartbeats 4000000

variable {bs : List D} {j : Nat} {c : Cod} {l : List Akt} {a : Akt} {F : Nat → Prop}

attribute [local irreducible] inR

def pk (l : List Akt) (k : Int) : Nat := (pro l).getD k.toNat 0

def thereB (l : List Akt) (k m : Int) : Bool := decide (0 ≤ k) && decide (k < (pro l).length) && decide ((nth l (pk l k)).minute ≤ m)

def rState (c : Cod) (l : List Akt) (k m : Int) : Int := if thereB l k m = true then stR c l k m else 0

theorem rl_min {kd k m : Int} {i : Nat} (h : rlast l kd k m = i) : (nth l i).minute ≤ m := by
 have := rlast_at h
 simp only [isAct, Bool.and_eq_true, decide_eq_true_eq] at this
 exact this.2

theorem pk_eaddr {k : Int} (h0 : 0 ≤ k) (h1 : k < (pro l).length) : D.eaddr 1 (Ix (prot l l.length)) (I k) = some (.ptr [In (pk l k)]) ∧ D.eaddr 12 (Rec l) (In (pk l k)) = some (.ptr (nth l (pk l k)).cs) := by
 have h2 : k.toNat < (prot l l.length).length := by unfold pro at h1; omega
 have h3 : pk l k = (prot l l.length)[k.toNat] := by unfold pk pro; simp [h2]
 rw [h3]
 refine ⟨?_, eaddr_nth (prot_lt l l.length _ (List.getElem_mem h2))⟩
 have e3 := eaddr_get (xs := prot l l.length) (enc := In) (i := k.toNat) (sz := 1) h2 rfl
 rw [show ((k.toNat : Nat) : Int) = k by omega] at e3
 exact e3

theorem c33 (hL : l.length ≤ 1000000) (hm : Mins l) (k m : Int) (hb : i64 m) : FSpecR Try.prog 33 (.st bs) [c.d, Rec l, I k, I m] (I (rState c l k m)) := by
 refine ku33.R rfl rfl ?_
 unfold u33
 simp only [ups_cons, ups_nil, List.cons_append, List.nil_append]
 have hpl := prot_len l l.length
 have hin : inR k 0 (((prot l l.length).length : Int) - 1) = (decide (0 ≤ k) && decide (k < (pro l).length)) := by
  unfold inR pro
  by_cases h1 : k ≤ ((prot l l.length).length : Int) - 1
  ·rw [decide_eq_true h1, decide_eq_true (show k < ((prot l l.length).length : Int) by omega)]
  ·rw [decide_eq_false h1, decide_eq_false (show ¬ k < ((prot l l.length).length : Int) by omega)]
 have h55 := c55 (bs := bs) k 0 (((prot l l.length).length : Int) - 1)
 rw [hin] at h55
 have hpe := fun h0 h1 => pk_eaddr (l := l) (k := k) h0 h1
 have hd := rlast_lt l 3 k m
 have hd0 : 0 ≤ rlast l 3 k m → 0 ≤ (nth l (rlast l 3 k m).toNat).minute ∧ (nth l (rlast l 3 k m).toNat).minute ≤ m := fun h0 => by
  refine ⟨(hm.nth _).1, rl_min (kd := 3) (k := k) ?_⟩
  omega
 unfold i64 at hb
 unfold rState thereB stR
 by_cases hk : (decide (0 ≤ k) && decide (k < (pro l).length)) = true
 ·rw [hk] at h55
  simp only [Bool.and_eq_true, decide_eq_true_eq] at hk
  have hpe' := hpe hk.1 hk.2
  by_cases hm1 : m < (nth l (pk l k)).minute
  ·have ht : decide ((nth l (pk l k)).minute > m) = true := decide_eq_true hm1
   repeat' (first | ((with_reducible apply nrm); (· simp only [sbe]; rfl)) | ((with_reducible apply u_iteT); (· rfl); (· exact ht)) | ((with_reducible apply u_chk); (· rfl)) | ((with_reducible apply u_eaddr); (· rfl); (· rfl); (· first | exact hpe'.1 | exact hpe'.2); (· simp only [sbe]; rfl)) | ((with_reducible apply u_lenL); (· rfl); (· exact lenL_map); (· simp only [sbe]; rfl)) | ((with_reducible apply u_sub); (· rfl); (· rfl); (· omega); (· simp only [sbe]; rfl)) | ((with_reducible apply u_ev); (· rfl); (· simp only [sbe]; rfl)) | ((with_reducible apply u_call); (· rfl); (· rfl); (· first | exact c27 hL | exact h55); (· rfl); (· simp only [sbe]; rfl)) | ((with_reducible apply u_or); (· rfl)) | (with_reducible exact u_ret rfl rfl) | ((with_reducible apply u_ret); (· rfl); first | exact rfl | (refine retB ?_) | (refine retI ?_) | (refine retD ?_)) | ((with_reducible intro hz); (try simp only [sbs] at hz)))
   rw [if_neg]
   simp
   omega
  ·have ht : decide ((nth l (pk l k)).minute > m) = false := decide_eq_false hm1
   rw [if_pos (by simp; omega)]
   repeat' (first | ((with_reducible apply nrm); (· simp only [sbe]; rfl)) | ((with_reducible apply u_iteF); (· rfl); (· exact ht)) | ((with_reducible apply u_chk); (· rfl)) | ((with_reducible apply u_eaddr); (· rfl); (· rfl); (· first | exact hpe'.1 | exact hpe'.2 | exact eaddr_int (by omega) (by omega)); (· simp only [sbe]; rfl)) | ((with_reducible apply u_lenL); (· rfl); (· exact lenL_map); (· simp only [sbe]; rfl)) | ((with_reducible apply u_sub); (· rfl); (· rfl); (· omega); (· simp only [sbe]; rfl)) | ((with_reducible apply u_ev); (· rfl); (· simp only [sbe]; rfl)) | ((with_reducible apply u_call); (· rfl); (· rfl); (· first | exact c27 hL | exact h55 | exact c59 hL _ _ _); (· rfl); (· simp only [sbe]; rfl)) | ((with_reducible apply u_or); (· rfl)) | ((with_reducible apply u_ite); (· rfl); all_goals (intro hz; (try simp only [sbs] at hz); first | (exact absurd hz (by decide)) | (exfalso; omega) | skip)) | (with_reducible exact u_ret rfl rfl) | ((with_reducible apply u_ret); (· rfl); first | exact rfl | (refine retB ?_) | (refine retI ?_) | (refine retD ?_)) | ((with_reducible intro hz); (try simp only [sbs] at hz)))
   all_goals ((repeat' split) <;> omega)
 ·have hk : (decide (0 ≤ k) && decide (k < (pro l).length)) = false := by simpa using hk
  rw [hk] at h55
  repeat' (first | ((with_reducible apply nrm); (· simp only [sbe]; rfl)) | ((with_reducible apply u_iteT); (· rfl); (· exact rfl)) | ((with_reducible apply u_chk); (· rfl)) | ((with_reducible apply u_lenL); (· rfl); (· exact lenL_map); (· simp only [sbe]; rfl)) | ((with_reducible apply u_sub); (· rfl); (· rfl); (· omega); (· simp only [sbe]; rfl)) | ((with_reducible apply u_ev); (· rfl); (· simp only [sbe]; rfl)) | ((with_reducible apply u_call); (· rfl); (· rfl); (· first | exact c27 hL | exact h55); (· rfl); (· simp only [sbe]; rfl)) | ((with_reducible apply u_or); (· rfl)) | ((with_reducible apply u_ret); (· rfl); first | exact rfl | (refine retB ?_) | (refine retI ?_) | (refine retD ?_)) | ((with_reducible intro hz); (try simp only [sbs] at hz)))
  ·rw [hk]; rfl
  ·exact false

theorem u_orT {P : Program} {u v : U} {env : List D} {Q : Sig → Prop} {g : E} {p : Bool} (hg : g.eval env = some (.v (.bool p))) (hp : p = true) (k : NrmD P u (env ++ [.v (.bool true)]) Q) : denU P (.chain true g v u) env Q := by
 subst hp
 exact ⟨true, true, hg, fun e => (by cases e), k⟩

theorem c72 {sa sf : D} (h : ActsAt bs j c l sa sf) {p : Nat} (hp : p < l.length) {b1 n1 : Nat} (m : Int) : FSpecR Try.prog 72 (.st bs) [.loc j 0, .agg [I p, .sl b1 0 n1], I m] (B (decide ((nth l p).minute ≤ m))) := by
 refine ku72.R rfl rfl ?_
 unfold u72
 simp only [ups_cons, ups_nil, List.cons_append, List.nil_append]
 obtain ⟨b, rfl, hb⟩ := h.2.get hp
 repeat' (first | ((with_reducible apply u_chk); (· rfl)) | ((with_reducible apply u_ld); (· rfl); (· rfl); (· first | exact ld_blk h.1 rfl | exact ld_elc hb (fun _ => rfl) (List.getElem?_eq_getElem hp) rfl); (· simp only [sbe]; rfl)) | ((with_reducible apply u_eaddr); (· rfl); (· rfl); (· exact eaddr_sl hp); (· simp only [sbe]; rfl)) | ((with_reducible apply u_ev); (· rfl); (· simp only [sbe]; rfl)) | ((with_reducible apply u_ret); (· rfl); first | exact rfl | (refine retB ?_) | (refine retI ?_) | (refine retD ?_)))
 rw [nth_get hp]

def stE (c : Cod) (l : List Akt) (k m : Int) : Int := if inR m 0 10000000 = false then 2 else if rState c l k m = 0 then 5 else 0
def stS (c : Cod) (l : List Akt) (k m : Int) : Int := if inR m 0 10000000 = false then 0 else rState c l k m

theorem stR_pos (c : Cod) (l : List Akt) (k m : Int) : stR c l k m ≠ 0 := by
 unfold stR
 repeat' split
 all_goals omega

theorem c31 (hA : Acc c l) (hc : CodOk c) {sa sf : D} {fs : List (Int × D)} (h : Crt bs F j c l (qOf l) sa sf fs) (k m : Int) : FSpecR Try.prog 31 (.st bs) [.loc j 0, I k, I m] (.tup [I (stS c l k m), I (stE c l k m)]) := by
 have hI := inv_of l hA
 have hlen := hI.len
 refine ku31.R rfl rfl ?_
 unfold u31
 simp only [ups_cons, ups_nil, List.cons_append, List.nil_append]
 have h61 := c61 h.acts
 have h52 := c52 (bs := bs) m 0 10000000
 have hfl : fs.length = (pro l).length := by rw [h.len, qOf_len]
 unfold stS stE
 cases hm : inR m 0 10000000
 ·rw [hm] at h52
  repeat' (first | ((with_reducible apply u_iteT); (· rfl); (· exact rfl)) | ((with_reducible apply u_iteF); (· rfl); (· exact rfl)) | ((with_reducible apply u_ev); (· rfl); (· simp only [sbe]; rfl)) | ((with_reducible apply u_call); (· rfl); (· rfl); (· first | exact h61 | exact h52); (· rfl); (· simp only [sbe]; rfl)) | (with_reducible exact u_ret rfl rfl))
 rw [hm] at h52
 have hmb : 0 ≤ m ∧ m ≤ 10000000 := by unfold inR at hm; simpa using hm
 simp only [Bool.true_eq_false, if_false]
 by_cases hk : 0 ≤ k ∧ k < (pro l).length
 ·obtain ⟨n, rfl⟩ : ∃ n : Nat, k = n := ⟨k.toNat, by omega⟩
  obtain ⟨p, hp⟩ : ∃ p, (pro l)[n]? = some p := ⟨_, List.getElem?_eq_getElem (by omega)⟩
  obtain ⟨s, hF⟩ := h.caseAt hA hp
  have hFs := hF.sl
  obtain ⟨b1, rfl, hb1⟩ := hFs.get (List.length_pos_iff.2 hF.ne)
  have hfk := hF.hk
  have hfs := h.files
  obtain ⟨b, rfl, hb⟩ := hfs.get hfk
  have h72 := c72 h.acts hF.pl (b1 := b1) (n1 := (idxOf l n p).length) m
  have h73 := c73 h.acts (fun a ha => by have := hI.mins a ha; unfold inR at this; simp at this; omega) hF.sl hF.lt hF.len p m ⟨by omega, by omega⟩
  have hpk : pk l n = p := by unfold pk; simp [hp]
  have hth : thereB l n m = decide ((nth l p).minute ≤ m) := by
   unfold thereB
   rw [hpk]
   simp
   omega
  unfold rState
  rw [hth]
  by_cases ht : (nth l p).minute ≤ m
  ·rw [state_eq hI hp (by unfold MM; omega) ht] at h73
   rw [decide_eq_true ht] at h72 ⊢
   simp only [if_true, if_neg (stR_pos c l n m)]
   repeat' (first | ((with_reducible apply nrm); (· simp only [sbe]; rfl)) | ((with_reducible apply u_iteF); (· rfl); (· exact rfl)) | ((with_reducible apply u_chk); (· rfl)) | ((with_reducible apply u_ld); (· rfl); (· rfl); (· first | exact ld_blk h.acts.1 rfl | exact ld_el hb (fun _ => rfl) hF.fk); (· simp only [sbe]; rfl)) | ((with_reducible apply u_eaddr); (· rfl); (· rfl); (· exact eaddr_sl hfk); (· simp only [sbe]; rfl)) | ((with_reducible apply u_ev); (· rfl); (· simp only [sbe]; rfl)) | ((with_reducible apply u_call); (· rfl); (· rfl); (· first | exact h61 | exact h52 | exact h72 | exact h73); (· rfl); (· simp only [sbe]; rfl)) | ((with_reducible apply u_or); (· rfl)) | ((with_reducible apply u_ite); (· rfl); all_goals (intro hz; (try simp only [sbs] at hz); first | (exact absurd hz (by decide)) | (exfalso; omega) | skip)) | (with_reducible exact u_ret rfl rfl) | ((with_reducible intro hz); (try simp only [sbs] at hz)))
  ·rw [decide_eq_false ht] at h72 ⊢
   simp only [Bool.false_eq_true, if_false, if_true]
   have ht2 : (decide ((n : Int) < 0) || decide ((n : Int) ≥ fs.length) || !false) = true := by simp
   repeat' (first | ((with_reducible apply nrm); (· simp only [sbe]; rfl)) | ((with_reducible apply u_iteT); (· rfl); (· exact ht2)) | ((with_reducible apply u_iteF); (· rfl); (· exact rfl)) | ((with_reducible apply u_chk); (· rfl)) | ((with_reducible apply u_ld); (· rfl); (· rfl); (· first | exact ld_blk h.acts.1 rfl | exact ld_el hb (fun _ => rfl) hF.fk); (· simp only [sbe]; rfl)) | ((with_reducible apply u_eaddr); (· rfl); (· rfl); (· exact eaddr_sl hfk); (· simp only [sbe]; rfl)) | ((with_reducible apply u_ev); (· rfl); (· simp only [sbe]; rfl)) | ((with_reducible apply u_call); (· rfl); (· rfl); (· first | exact h61 | exact h52 | exact h72); (· rfl); (· simp only [sbe]; rfl)) | ((with_reducible apply u_or); (· rfl)) | (with_reducible exact u_ret rfl rfl) | ((with_reducible intro hz); (try simp only [sbs] at hz)))
 ·have hth : thereB l k m = false := by
   unfold thereB
   by_cases h0 : 0 ≤ k
   ·rw [decide_eq_false (show ¬ k < ((pro l).length : Int) by omega)]; simp
   ·rw [decide_eq_false h0]; simp
  unfold rState
  rw [hth]
  simp only [Bool.false_eq_true, if_false, if_true]
  have ht : (decide (k < 0) || decide (k ≥ (fs.length : Int))) = true := by
   rw [hfl]
   simp
   omega
  repeat' (first | ((with_reducible apply nrm); (· simp only [sbe]; rfl)) | ((with_reducible apply u_orT); (· rfl); (· exact ht)) | ((with_reducible apply u_iteT); (· rfl); (· exact rfl)) | ((with_reducible apply u_iteF); (· rfl); (· exact rfl)) | ((with_reducible apply u_chk); (· rfl)) | ((with_reducible apply u_ld); (· rfl); (· rfl); (· exact ld_blk h.acts.1 rfl); (· simp only [sbe]; rfl)) | ((with_reducible apply u_lenL); (· rfl); (· exact h.files.len); (· simp only [sbe]; rfl)) | ((with_reducible apply u_ev); (· rfl); (· simp only [sbe]; rfl)) | ((with_reducible apply u_call); (· rfl); (· rfl); (· first | exact h61 | exact h52); (· rfl); (· simp only [sbe]; rfl)) | ((with_reducible apply u_or); (· rfl)) | (with_reducible exact u_ret rfl rfl) | ((with_reducible intro hz); (try simp only [sbs] at hz)))

end Go.Am.Ct

/-
 Penalties.
-/
namespace Go.Am.Ct
open Go.Proofs Go.Am.Ap
set_option maxRecDepth 100000
set_option maxHeartbeats 4000000

variable {bs : List D} {j : Nat} {c : Cod} {l : List Akt} {a : Akt} {F : Nat → Prop}

attribute [local irreducible] inR

theorem c74 {sa sf : D} (h : ActsAt bs j c l sa sf) (car m : Int) : FSpecR Try.prog 74 (.st bs) [.loc j 0, I car, I m] (I (if (inR car 1 c.cars && inR m 0 10000000) = true then 0 else 2)) := by
 refine ku74.R rfl rfl ?_
 unfold u74
 simp only [ups_cons, ups_nil, List.cons_append, List.nil_append]
 repeat' (first | ((with_reducible apply nrm); (· simp only [sbe]; rfl)) | ((with_reducible apply u_iteF); (· rfl); (· exact rfl)) | ((with_reducible apply u_chk); (· rfl)) | ((with_reducible apply u_ld); (· rfl); (· rfl); (· exact ld_blk h.1 rfl); (· simp only [sbe]; rfl)) | ((with_reducible apply u_ev); (· rfl); (· simp only [sbe]; rfl)) | ((with_reducible apply u_call); (· rfl); (· rfl); (· first | exact c61 h | exact c52 _ _ _); (· rfl); (· simp only [sbe]; rfl)) | ((with_reducible apply u_or); (· rfl)) | ((with_reducible apply u_ite); (· rfl); all_goals (intro hz; (try simp only [sbs] at hz); first | (exact absurd hz (by decide)) | (exfalso; omega) | skip)) | (with_reducible exact u_ret rfl rfl) | ((with_reducible apply u_ret); (· rfl); first | exact rfl | (refine retB ?_) | (refine retI ?_) | (refine retD ?_)) | ((with_reducible intro hz); (try simp only [sbs] at hz)))
 ·rw [if_neg (by rcases hz with h1 | h1 <;> simp [h1])]
 ·rw [if_pos (by simp [hz])]

def rulGo (l : List Akt) (m : Int) : List Nat → Option Akt → Option Akt
 | [], o => o
 | i :: r, o => rulGo l m r (if (nth l i).minute ≤ m ∧ ((nth l i).kind = 3 ∨ (nth l i).kind = 5) then some (nth l i) else o)

theorem rulGo_cons (l : List Akt) (m : Int) (i : Nat) (r : List Nat) (o : Option Akt) : rulGo l m (i :: r) o = rulGo l m r (if (nth l i).minute ≤ m ∧ ((nth l i).kind = 3 ∨ (nth l i).kind = 5) then some (nth l i) else o) := rfl

def rcs (o : Option Akt) : List D := (o.getD Akt.zero).cs

theorem c84 {sa sf : D} (h : ActsAt bs j c l sa sf) {s : D} {idx : List Nat} (hs : SlOf bs 3 1 ncs s idx) (hi : ∀ i, i ∈ idx → i < l.length) (hL : idx.length ≤ 1000000) (p m : Int) : FSpecR Try.prog 84 (.st bs) [.loc j 0, .agg [I p, s], I m] (.tup [.agg (rcs (rulGo l m idx none)), B (rulGo l m idx none).isSome]) := by
  refine ku84.R rfl rfl ?_
  unfold u84
  simp only [ups_cons, ups_nil, List.cons_append, List.nil_append]
  repeat' (first | ((with_reducible apply u_chk); (· rfl)) | ((with_reducible apply u_lenL); (· rfl); (· exact hs.len); (· simp only [sbe]; rfl)) | (with_reducible refine u_join ?_))
  refine u_list idx (fun (o : Option Akt) i => [B o.isSome, I i, I (o.getD Akt.zero).kind, I (o.getD Akt.zero).minute, I (o.getD Akt.zero).paper, I (o.getD Akt.zero).cse, I (o.getD Akt.zero).by_, I (o.getD Akt.zero).against, I (o.getD Akt.zero).article, I (o.getD Akt.zero).at_, Is (o.getD Akt.zero).facts, I (o.getD Akt.zero).paid, B (o.getD Akt.zero).upheld, I (o.getD Akt.zero).penalty]) (fun r o => rulGo l m r o = rulGo l m idx none) none rfl (fun _ _ => rfl) rfl (fun i x o hx hlt hG R hR => ?_) (fun o hG R => ?_)
  · have hxl := hi x (List.mem_of_getElem? hx)
    obtain ⟨b1, rfl, hb1⟩ := hs.get hlt
    obtain ⟨b2, rfl, hb2⟩ := h.2.get hxl
    have hn := nth_get hxl
    rw [rulGo_cons, hn] at hG
    repeat' (first | ((with_reducible apply nrm); (· simp only [sbe]; rfl)) | ((with_reducible apply u_chk); (· rfl)) | ((with_reducible apply u_ld); (· rfl); (· rfl); (· first | exact ld_el0 hb1 (fun _ => rfl) hx rfl | exact ld_blk h.1 rfl | exact ld_el hb2 (fun _ => rfl) (List.getElem?_eq_getElem hxl)); (· simp only [sbe]; rfl)) | ((with_reducible apply u_eaddr); (· rfl); (· rfl); (· first | exact eaddr_sl hlt | exact eaddr_sl hxl); (· simp only [sbe]; rfl)) | ((with_reducible apply u_inc); (· rfl); (· omega); (· simp only [sbe]; rfl)) | ((with_reducible apply u_ev); (· rfl); (· simp only [sbe]; rfl)) | ((with_reducible apply u_or); (· rfl)) | ((with_reducible apply u_and); (· rfl)) | (with_reducible refine u_join ?_) | ((with_reducible apply u_jump); (· rfl); (· rfl)) | (with_reducible refine at_jump ?_) | (with_reducible refine kj rfl ?_) | ((with_reducible apply u_phiS); (· rfl); all_goals (intro hz; (try simp only [sbs] at hz); first | (exact absurd hz (by decide)) | (exfalso; omega) | (refine ⟨_, rfl, ?_⟩))) | ((with_reducible apply u_ite); (· rfl); all_goals (intro hz; (try simp only [sbs] at hz); first | (exact absurd hz (by decide)) | (exfalso; omega) | skip)) | (with_reducible exact u_ret rfl rfl) | ((with_reducible intro hz); (try simp only [sbs] at hz)))
    · rw [if_pos ⟨hz.1, hz.2⟩] at hG
      exact hR (some l[x]) hG
    · rw [if_neg (fun hh => by rcases hz with h1 | ⟨h1, h2⟩
                               · omega
                               · rcases hh.2 with h3 | h3
                                 · exact h1 h3
                                 · exact h2 h3)] at hG
      exact hR o hG
  · repeat' (first | ((with_reducible apply nrm); (· simp only [sbe]; rfl)) | ((with_reducible apply u_ev); (· rfl); (· simp only [sbe]; rfl)) | ((with_reducible apply u_jump); (· rfl); (· rfl)) | (with_reducible refine at_jump ?_) | (with_reducible refine over_jump (by decide) ?_) | (with_reducible refine kj rfl ?_) | ((with_reducible apply u_ite); (· rfl); all_goals (intro hz; (try simp only [sbs] at hz); first | (exact absurd hz (by decide)) | (exfalso; omega) | skip)) | ((with_reducible apply u_ret); (· rfl); first | exact rfl | (refine retB ?_) | (refine retI ?_) | (refine retD ?_)))
    have hG' : o = rulGo l m idx none := hG
    rw [← hG']
    rfl

def rulR (l : List Akt) (k m : Int) : Option Akt := if 0 ≤ rlast l 5 k m then some (nth l (rlast l 5 k m).toNat) else if 0 ≤ rlast l 3 k m then some (nth l (rlast l 3 k m).toNat) else none

theorem rulGo_opt (l : List Akt) (m x : Int) (r : List Nat) (o : Option Akt) : rulGo l m (opt x ++ r) o = rulGo l m r (if 0 ≤ x ∧ (nth l x.toNat).minute ≤ m ∧ ((nth l x.toNat).kind = 3 ∨ (nth l x.toNat).kind = 5) then some (nth l x.toNat) else o) := by
 unfold opt
 split
 ·rename_i h
  simp only [List.cons_append, List.nil_append, rulGo_cons, h, true_and]
 ·rename_i h
  simp [h]

theorem rul_eq (h : Inv c l) {k p : Nat} (hp : (pro l)[k]? = some p) {m : Int} (hm : m ≤ MM) : rulGo l m (idxOf l k p) none = rulR l k m := by
 have hkd : (nth l p).kind = 2 := pro_kind (List.mem_of_getElem? hp)
 have kinds : ∀ kd : Int, 0 ≤ rlast l kd k MM → (nth l (rlast l kd k MM).toNat).kind = kd := fun kd h0 => by
  obtain ⟨i, hi, _, hk, _⟩ := at_of h0
  rw [hi]
  simpa using hk
 unfold idxOf rulR
 rw [rulGo_cons, if_neg (by omega), rulGo_opt, rulGo_opt, rulGo_opt]
 rw [show opt (rlast l 6 k MM) = opt (rlast l 6 k MM) ++ [] by simp, rulGo_opt]
 rw [rl_m h (by omega : (3 : Int) ≤ 3) hm, rl_m h (by omega : (3 : Int) ≤ 5) hm]
 simp only [rulGo]
 have e6 : ¬ (0 ≤ rlast l 6 k MM ∧ (nth l (rlast l 6 k MM).toNat).minute ≤ m ∧ ((nth l (rlast l 6 k MM).toNat).kind = 3 ∨ (nth l (rlast l 6 k MM).toNat).kind = 5)) := fun hh => by
  have := kinds 6 hh.1; omega
 have e4 : ¬ (0 ≤ rlast l 4 k MM ∧ (nth l (rlast l 4 k MM).toNat).minute ≤ m ∧ ((nth l (rlast l 4 k MM).toNat).kind = 3 ∨ (nth l (rlast l 4 k MM).toNat).kind = 5)) := fun hh => by
  have := kinds 4 hh.1; omega
 rw [if_neg e6, if_neg e4]
 by_cases h5 : 0 ≤ rlast l 5 k MM ∧ (nth l (rlast l 5 k MM).toNat).minute ≤ m
 ·rw [if_pos ⟨h5.1, h5.2, .inr (kinds 5 h5.1)⟩, if_pos h5, if_pos h5.1]
 ·rw [if_neg (fun hh => h5 ⟨hh.1, hh.2.1⟩), if_neg h5]
  by_cases h3 : 0 ≤ rlast l 3 k MM ∧ (nth l (rlast l 3 k MM).toNat).minute ≤ m
  ·rw [if_pos ⟨h3.1, h3.2, .inl (kinds 3 h3.1)⟩, if_pos h3]
   simp [h3.1]
  ·rw [if_neg (fun hh => h3 ⟨hh.1, hh.2.1⟩), if_neg h3]
   simp

end Go.Am.Ct

/-
 What a ruling forces; the cases against a car.
-/
namespace Go.Am.Ct
open Go.Proofs Go.Am.Ap
set_option maxRecDepth 100000
set_option maxHeartbeats 4000000

variable {bs : List D} {j : Nat} {c : Cod} {l : List Akt} {a : Akt} {F : Nat → Prop}

attribute [local irreducible] inR

def ruled (c : Cod) (l : List Akt) (k m : Int) : Bool := decide (stR c l k m = 3) || decide (stR c l k m = 5)

def frP (c : Cod) (l : List Akt) (k m : Int) : Int := if ruled c l k m = true then ((rulR l k m).getD Akt.zero).penalty else 0
def frB (c : Cod) (l : List Akt) (k m : Int) : Bool := ruled c l k m && ((rulR l k m).isSome && ((rulR l k m).getD Akt.zero).upheld)

theorem c76 (hI : Inv c l) {sa sf : D} (h : ActsAt bs j c l sa sf) {k p : Nat} (hp : (pro l)[k]? = some p) {m : Int} (hm : m ≤ MM) (hpm : (nth l p).minute ≤ m) (hb : i64 m) {s : D} (hs : SlOf bs 3 1 ncs s (idxOf l k p)) (hi : ∀ i, i ∈ idxOf l k p → i < l.length) (hL : (idxOf l k p).length ≤ 1000000) : FSpecR Try.prog 76 (.st bs) [.loc j 0, .agg [I p, s], I m] (.tup [I (frP c l k m), B (frB c l k m)]) := by
 have h73 := c73 h (fun a ha => by have := hI.mins a ha; unfold inR at this; simp at this; omega) hs hi hL p m hb
 have h84 := c84 h hs hi hL p m
 rw [state_eq hI hp hm hpm] at h73
 rw [rul_eq hI hp hm] at h84
 obtain ⟨b1, rfl, hb1⟩ := hs.get (i := 0) (by unfold idxOf; simp)
 refine ku76.R rfl rfl ?_
 unfold u76
 simp only [ups_cons, ups_nil, List.cons_append, List.nil_append]
 unfold rcs at h84
 unfold frP frB ruled
 repeat' (first | ((with_reducible apply nrm); (· simp only [sbe]; rfl)) | ((with_reducible apply u_chk); (· rfl)) | ((with_reducible apply u_ev); (· rfl); (· simp only [sbe]; rfl)) | ((with_reducible apply u_call); (· rfl); (· rfl); (· first | exact h73 | exact h84); (· rfl); (· simp only [sbe]; rfl)) | ((with_reducible apply u_and); (· rfl)) | ((with_reducible apply u_ite); (· rfl); all_goals (intro hz; (try simp only [sbs] at hz); first | (exact absurd hz (by decide)) | (exfalso; omega) | skip)) | (with_reducible exact u_ret rfl rfl) | ((with_reducible apply u_ret); (· rfl); first | exact rfl | (refine retB ?_) | (refine retI ?_) | (refine retD ?_)) | ((with_reducible intro hz); (try simp only [sbs] at hz)))
 ·simp [hz]
 ·rcases hz with h1 | h1 <;> simp [h1]

def agP (l : List Akt) (car m : Int) (k : Nat) : Bool := decide ((nth l (pk l k)).minute ≤ m) && decide ((nth l (pk l k)).against = car)
def ags (l : List Akt) (car m : Int) : List Nat := (List.range (pro l).length).filter (agP l car m)

def fD (fs : List (Int × D)) (k : Nat) : D := .agg (fcs (fs.getD k (0, .tup [])))

theorem c75 (hA : Acc c l) {sa sf : D} {fs : List (Int × D)} (h : Crt bs F j c l (qOf l) sa sf fs) (car m : Int) : FSpecR Try.prog 75 (.st bs) [.loc j 0, I car, I m] (.lst ((ags l car m).map (fD fs))) := by
 have hI := inv_of l hA
 have hlen := hI.len
 have hfl : fs.length = (pro l).length := by rw [h.len, qOf_len]
 have hpl : (pro l).length ≤ l.length := by unfold pro; have := prot_len l l.length; omega
 refine ku75.R rfl rfl ?_
 unfold u75
 simp only [ups_cons, ups_nil, List.cons_append, List.nil_append]
 repeat' (first | ((with_reducible apply u_chk); (· rfl)) | ((with_reducible apply u_ld); (· rfl); (· rfl); (· exact ld_blk h.acts.1 rfl); (· simp only [sbe]; rfl)) | ((with_reducible apply u_lenL); (· rfl); (· exact h.files.len); (· simp only [sbe]; rfl)) | (with_reducible refine u_join ?_))
 refine u_list (List.range fs.length) (fun (acc : List Nat) i => [.lst (acc.map (fD fs)), I i]) (fun r acc => acc ++ r.filter (agP l car m) = ags l car m ∧ acc.length + r.length ≤ fs.length) [] rfl (fun _ _ => rfl) ⟨by rw [hfl]; rfl, by simp⟩ (fun i x acc hx hlt hG R hR => ?_) (fun acc hG R => ?_)
 ·obtain ⟨hlt2, rfl⟩ : i < fs.length ∧ x = i := by
   rw [List.getElem?_range (by simpa using hlt)] at hx
   exact ⟨by simpa using hlt, by simpa using hx.symm⟩
  obtain ⟨p, hp⟩ : ∃ p, (pro l)[x]? = some p := ⟨_, List.getElem?_eq_getElem (by omega)⟩
  obtain ⟨s, hF⟩ := h.caseAt hA hp
  have hFs := hF.sl
  obtain ⟨b1, rfl, hb1⟩ := hFs.get (List.length_pos_iff.2 hF.ne)
  have hfs := h.files
  obtain ⟨b, rfl, hb⟩ := hfs.get hlt2
  have hact := h.acts.2
  obtain ⟨b2, rfl, hb2⟩ := hact.get hF.pl
  have h72 := c72 h.acts hF.pl (b1 := b1) (n1 := (idxOf l x p).length) m
  have hpk : pk l x = p := by unfold pk; simp [hp]
  have hfd : fD fs x = .agg [I p, .sl b1 0 (idxOf l x p).length] := by unfold fD; simp [hF.fk]; rfl
  have hag : agP l car m x = (decide ((nth l p).minute ≤ m) && decide ((nth l p).against = car)) := by unfold agP; rw [hpk]
  have hll := hG.2
  simp only [List.length_cons] at hll
  rw [List.filter_cons, hag] at hG
  have hac : acc.length + 1 ≤ 1000000 := by omega
  have hml : acc.length + 1 ≤ maxLen := by unfold maxLen; omega
  have ha1 := app1_lst (xs := acc) (enc := fD fs) (a := x) (sz := 2) (bytes := 32) (by omega) hml (fun _ => rfl)
  rw [hfd] at ha1
  repeat' (first | ((with_reducible apply nrm); (· simp only [sbe]; rfl)) | ((with_reducible apply u_chk); (· rfl)) | ((with_reducible apply u_ld); (· rfl); (· rfl); (· first | exact ld_blk h.acts.1 rfl | exact ld_el hb (fun _ => rfl) hF.fk | exact ld_elc hb2 (fun _ => rfl) (List.getElem?_eq_getElem hF.pl) rfl); (· simp only [sbe]; rfl)) | ((with_reducible apply u_eaddr); (· rfl); (· rfl); (· first | exact eaddr_sl hlt2 | exact eaddr_sl hF.pl); (· simp only [sbe]; rfl)) | ((with_reducible apply u_app); (· rfl); (· rfl); (· exact ha1); (· simp only [sbe]; rfl)) | ((with_reducible apply u_inc); (· rfl); (· omega); (· simp only [sbe]; rfl)) | ((with_reducible apply u_ev); (· rfl); (· simp only [sbe]; rfl)) | ((with_reducible apply u_call); (· rfl); (· rfl); (· exact h72); (· rfl); (· simp only [sbe]; rfl)) | ((with_reducible apply u_and); (· rfl)) | (with_reducible refine u_join ?_) | ((with_reducible apply u_jump); (· rfl); (· rfl)) | (with_reducible refine at_jump ?_) | (with_reducible refine kj rfl ?_) | ((with_reducible apply u_ite); (· rfl); all_goals (intro hz; (try simp only [sbs] at hz); first | (exact absurd hz (by decide)) | (exfalso; omega) | skip)) | (with_reducible exact u_ret rfl rfl) | ((with_reducible intro hz); (try simp only [sbs] at hz)))
  ·refine hR (acc ++ [x]) ⟨?_, ?_⟩
   ·have := hG.1
    rw [nth_get hF.pl] at this
    try rw [nth_get hF.pl] at hz
    rw [if_pos (by simpa using hz)] at this
    simpa using this
   ·simp; simp at hll; omega
  ·refine hR acc ⟨?_, ?_⟩
   ·have := hG.1
    rw [nth_get hF.pl] at this
    try rw [nth_get hF.pl] at hz
    rw [if_neg (by
     intro hh
     simp only [Bool.and_eq_true, decide_eq_true_eq] at hh
     rcases hz with h1 | h1
     ·omega
     ·exact h1 hh.2)] at this
    exact this
   ·simp at hll ⊢; omega
 ·rw [List.length_range]
  repeat' (first | ((with_reducible apply nrm); (· simp only [sbe]; rfl)) | ((with_reducible apply u_ev); (· rfl); (· simp only [sbe]; rfl)) | ((with_reducible apply u_jump); (· rfl); (· rfl)) | (with_reducible refine at_jump ?_) | (with_reducible refine over_jump (by decide) ?_) | (with_reducible refine kj rfl ?_) | ((with_reducible apply u_ite); (· rfl); all_goals (intro hz; (try simp only [sbs] at hz); first | (exact absurd hz (by decide)) | (exfalso; omega) | skip)) | ((with_reducible apply u_ret); (· rfl); first | exact rfl | (refine retB ?_) | (refine retI ?_) | (refine retD ?_)))
  have hG' := hG.1
  rw [List.filter_nil, List.append_nil] at hG'
  rw [hG']

end Go.Am.Ct

/-
 Penalties, as the specification has them.
-/
namespace Go.Am.Ct
open Go.Proofs Go.Am.Ap
set_option maxRecDepth 100000
set_option maxHeartbeats 4000000

variable {bs : List D} {j : Nat} {c : Cod} {l : List Akt} {a : Akt} {F : Nat → Prop}

attribute [local irreducible] inR

def rulI (l : List Akt) (k m : Int) : Int := if rlast l 5 k m > rlast l 3 k m then rlast l 5 k m else rlast l 3 k m

theorem c102 (hL : l.length ≤ 1000000) (k m : Int) : FSpecR Try.prog 102 (.st bs) [Rec l, I k, I m] (I (rulI l k m)) := by
 refine ku102.R rfl rfl ?_
 unfold u102
 simp only [ups_cons, ups_nil, List.cons_append, List.nil_append]
 unfold rulI
 repeat' (first | ((with_reducible apply u_ev); (· rfl); (· simp only [sbe]; rfl)) | ((with_reducible apply u_call); (· rfl); (· rfl); (· exact c59 hL _ _ _); (· rfl); (· simp only [sbe]; rfl)) | (with_reducible exact u_ret rfl rfl))

theorem rulI_eq (hI : Inv c l) {k m : Int} (hm : m ≤ MM) : rulR l k m = if 0 ≤ rulI l k m then some (nth l (rulI l k m).toNat) else none := by
 have s := hI.shape k
 have s1 := s.dx
 have s2 := s.da
 have s3 := s.aj
 have s4 := s.oa
 have s5 := s.oj
 have l3 := rlast_lt l 3 k m
 have l5 := rlast_lt l 5 k m
 have e3 := rl_m hI (by omega : (3 : Int) ≤ 3) hm (k := k)
 have e5 := rl_m hI (by omega : (3 : Int) ≤ 5) hm (k := k)
 unfold rulR rulI
 by_cases h5 : 0 ≤ rlast l 5 k m
 ·have hlt : rlast l 5 k m > rlast l 3 k m := by
   split at e5
   ·split at e3 <;> omega
   ·omega
  rw [if_pos h5, if_pos hlt, if_pos h5]
 ·have hlt : ¬ rlast l 5 k m > rlast l 3 k m := by omega
  rw [if_neg h5, if_neg hlt]

theorem rulI_lt (l : List Akt) (k m : Int) : rulI l k m < l.length := by
 have l3 := rlast_lt l 3 k m
 have l5 := rlast_lt l 5 k m
 unfold rulI
 split <;> omega

theorem rulI_pos {k m : Int} (h : ruled c l k m = true) : 0 ≤ rulI l k m := by
 unfold ruled stR at h
 unfold rulI
 have l3 := rlast_lt l 3 k m
 have l5 := rlast_lt l 5 k m
 by_cases h6 : 0 ≤ rlast l 6 k m
 ·rw [if_pos h6] at h; simp at h
 ·rw [if_neg h6] at h
  by_cases h5 : 0 ≤ rlast l 5 k m
  ·split <;> omega
  ·rw [if_neg h5] at h
   by_cases h4 : 0 ≤ rlast l 4 k m
   ·rw [if_pos h4] at h; simp at h
   ·rw [if_neg h4] at h
    by_cases h3 : rlast l 3 k m < 0
    ·rw [if_pos h3] at h; simp at h
    ·split <;> omega

def fB (c : Cod) (l : List Akt) (k m : Int) : Bool := thereB l k m && frB c l k m
def fP (c : Cod) (l : List Akt) (k m : Int) : Int := if thereB l k m = true then frP c l k m else 0

theorem c78 (hI : Inv c l) (k m : Int) (hb : i64 m) (hm : m ≤ MM) : FSpecR Try.prog 78 (.st bs) [c.d, Rec l, I k, I m] (.tup [I (fP c l k m), B (fB c l k m)]) := by
 have hlen := hI.len
 have hL : l.length ≤ 1000000 := by omega
 refine ku78.R rfl rfl ?_
 unfold u78
 simp only [ups_cons, ups_nil, List.cons_append, List.nil_append]
 have hq := rulI_eq hI hm (k := k)
 have hlt := rulI_lt l k m
 unfold fP fB frP frB
 by_cases h : thereB l k m = true ∧ ruled c l k m = true
 ·have h0 := rulI_pos h.2
  have hs : rState c l k m = 3 ∨ rState c l k m = 5 := by
   have := h.2
   unfold rState
   rw [if_pos h.1]
   simpa [ruled] using this
  rw [if_pos h.1, h.2, h.1, hq, if_pos h0]
  have hf : (decide (rState c l k m ≠ 3) && decide (rState c l k m ≠ 5)) = false := by
   rcases hs with e | e <;> rw [e] <;> decide
  repeat' (first | ((with_reducible apply nrm); (· simp only [sbe]; rfl)) | ((with_reducible apply u_chk); (· rfl)) | ((with_reducible apply u_eaddr); (· rfl); (· rfl); (· exact eaddr_int h0 hlt); (· simp only [sbe]; rfl)) | ((with_reducible apply u_ev); (· rfl); (· simp only [sbe]; rfl)) | ((with_reducible apply u_call); (· rfl); (· rfl); (· first | exact c33 hL hI.mins k m hb | exact c102 hL k m); (· rfl); (· simp only [sbe]; rfl)) | ((with_reducible apply u_and); (· rfl)) | ((with_reducible apply u_ite); (· rfl); all_goals (intro hz; (try simp only [sbs] at hz); first | (exact absurd hz (by decide)) | (exfalso; omega) | skip)) | (with_reducible exact u_ret rfl rfl) | ((with_reducible intro hz); (try simp only [sbs] at hz)))
 ·have hs : rState c l k m ≠ 3 ∧ rState c l k m ≠ 5 := by
   unfold rState
   split
   ·rename_i h1
    have : ruled c l k m ≠ true := fun h2 => h ⟨h1, h2⟩
    simpa [ruled] using this
   ·omega
  have ht : (decide (rState c l k m ≠ 3) && decide (rState c l k m ≠ 5)) = true := by simp [hs.1, hs.2]
  have e1 : (thereB l k m && ruled c l k m) = false := by
   cases h1 : thereB l k m
   ·rfl
   ·cases h2 : ruled c l k m
    ·rfl
    ·exact absurd ⟨h1, h2⟩ h
  rw [← Bool.and_assoc, e1, Bool.false_and]
  have e2 : (if thereB l k m = true then if ruled c l k m = true then ((rulR l k m).getD Akt.zero).penalty else 0 else 0) = 0 := by
   split
   ·rename_i h1
    rw [if_neg (fun h2 => h ⟨h1, h2⟩)]
   ·rfl
  rw [e2]
  repeat' (first | ((with_reducible apply nrm); (· simp only [sbe]; rfl)) | ((with_reducible apply u_chk); (· rfl)) | ((with_reducible apply u_ev); (· rfl); (· simp only [sbe]; rfl)) | ((with_reducible apply u_call); (· rfl); (· rfl); (· exact c33 hL hI.mins k m hb); (· rfl); (· simp only [sbe]; rfl)) | ((with_reducible apply u_and); (· rfl)) | ((with_reducible apply u_ite); (· rfl); all_goals (intro hz; (try simp only [sbs] at hz); first | (exact absurd hz (by decide)) | (exfalso; omega) | skip)) | (with_reducible exact u_ret rfl rfl) | ((with_reducible intro hz); (try simp only [sbs] at hz)))

end Go.Am.Ct

/-
 The specification's Penalty.
-/
namespace Go.Am.Ct
open Go.Proofs Go.Am.Ap
set_option maxRecDepth 100000
set_option maxHeartbeats 4000000

variable {bs : List D} {j : Nat} {c : Cod} {l : List Akt} {a : Akt} {F : Nat → Prop}

attribute [local irreducible] inR

def ctb (c : Cod) (l : List Akt) (m : Int) (k : Nat) : Int := if fB c l k m = true then fP c l k m else 0
def cpr (c : Cod) (l : List Akt) (m : Int) (k : Nat) : Bool := (rState c l k m == 1) || (rState c l k m == 3) || (rState c l k m == 4)
def agB (l : List Akt) (car : Int) (k : Nat) : Bool := decide ((nth l (pk l k)).against = car)
def agC (l : List Akt) (car : Int) : List Nat := (List.range (pro l).length).filter (agB l car)
def pubW (c : Cod) (m : Int) (a : Akt) : Bool := decide (a.kind = 1) && inR (m - a.minute) 0 c.window

def penR (c : Cod) (l : List Akt) (car m : Int) : Int := ((agC l car).map (ctb c l m)).sum
def prvR (c : Cod) (l : List Akt) (car m : Int) : Bool := (agC l car).any (cpr c l m) || l.any (pubW c m)

theorem rul_kind {k m : Int} (h : 0 ≤ rulI l k m) : (nth l (rulI l k m).toNat).kind = 3 ∨ (nth l (rulI l k m).toNat).kind = 5 := by
 unfold rulI at h ⊢
 split at h
 ·rename_i h5
  rw [if_pos h5]
  obtain ⟨i, hi⟩ : ∃ i : Nat, rlast l 5 k m = i := ⟨(rlast l 5 k m).toNat, by omega⟩
  have hP := rlast_at hi
  simp only [isAct, Bool.and_eq_true, beq_iff_eq] at hP
  rw [hi]
  exact .inr (by simpa using hP.1.1)
 ·rename_i h5
  rw [if_neg h5]
  obtain ⟨i, hi⟩ : ∃ i : Nat, rlast l 3 k m = i := ⟨(rlast l 3 k m).toNat, by omega⟩
  have hP := rlast_at hi
  simp only [isAct, Bool.and_eq_true, beq_iff_eq] at hP
  rw [hi]
  exact .inl (by simpa using hP.1.1)

theorem actOk_pen {cars : Int} {a : Akt} (h : actOk cars a = true) (hk : a.kind = 3 ∨ a.kind = 5) : 0 ≤ a.penalty ∧ a.penalty ≤ 36000000 := by
 unfold actOk at h
 simp only [Bool.and_eq_true] at h
 have h := h.1
 rw [if_neg (by omega), if_neg (by omega), if_pos (by omega)] at h
 simp only [Bool.and_eq_true, decide_eq_true_eq, inR] at h
 omega

theorem frP_bd (hI : Inv c l) {k m : Int} (hm : m ≤ MM) : 0 ≤ frP c l k m ∧ frP c l k m ≤ 36000000 := by
 unfold frP
 split
 ·rename_i h
  rw [rulI_eq hI hm, if_pos (rulI_pos h)]
  have h0 := rulI_pos h
  have hlt := rulI_lt l k m
  exact actOk_pen (hI.ok _ (by omega)) (rul_kind h0)
 ·omega

theorem ctb_bd (hI : Inv c l) {m : Int} (hm : m ≤ MM) (k : Nat) : 0 ≤ ctb c l m k ∧ ctb c l m k ≤ 36000000 := by
 have := frP_bd hI (k := k) hm
 unfold ctb fP
 split
 ·split
  ·exact this
  ·omega
 ·omega

theorem c35 (hI : Inv c l) (car m : Int) (h0 : 0 ≤ m) (hm : m ≤ MM) : FSpecR Try.prog 35 (.st bs) [c.d, Rec l, I car, I m] (.tup [I (penR c l car m), B (prvR c l car m)]) := by
 have hlen := hI.len
 have hL : l.length ≤ 1000000 := by omega
 have hpl : (pro l).length ≤ l.length := by unfold pro; have := prot_len l l.length; omega
 have hb : i64 m := by unfold i64 MM at *; omega
 have hbd := ctb_bd hI hm
 unfold MM at hm
 refine ku35.R rfl rfl ?_
 unfold u35
 simp only [ups_cons, ups_nil, List.cons_append, List.nil_append]
 repeat' (first | ((with_reducible apply u_chk); (· rfl)) | ((with_reducible apply u_call); (· rfl); (· rfl); (· exact c27 hL); (· rfl); (· simp only [sbe]; rfl)) | (with_reducible refine u_join ?_))
 refine u_list (List.range (pro l).length) (fun (s : Int × Bool) i => [I s.1, B s.2, I i]) (fun r s => s.1 + ((r.filter (agB l car)).map (ctb c l m)).sum = penR c l car m ∧ (s.2 || (r.filter (agB l car)).any (cpr c l m)) = (agC l car).any (cpr c l m) ∧ 0 ≤ s.1 ∧ s.1 + 36000000 * r.length ≤ 36000000 * 2000) (0, false) rfl (fun _ _ => rfl) ⟨by simp [penR, agC], by simp [agC], by simp, by simp; omega⟩ (fun i x s hx hlt hG R hR => ?_) (fun s hG R => ?_)
 ·obtain ⟨hlt2, rfl⟩ : i < (pro l).length ∧ x = i := by
   rw [List.getElem?_range (by simpa using hlt)] at hx
   exact ⟨by simpa using hlt, by simpa using hx.symm⟩
  obtain ⟨s1, s2⟩ := s
  obtain ⟨g1, g2, g3, g4⟩ := hG
  have hpe := pk_eaddr (l := l) (k := (x : Int)) (by omega) (by omega)
  have hlt3 : (x : Int) < (prot l l.length).length := by unfold pro at hlt2; omega
  simp only [List.length_cons] at g4
  have hbx := hbd x
  rw [List.filter_cons] at g1 g2
  have h78 := c78 (bs := bs) hI (x : Int) m hb (by unfold MM; omega)
  have h33 := c33 (bs := bs) (c := c) hL hI.mins (x : Int) m hb
  by_cases hag : agB l car x = true
  ·rw [if_pos hag] at g1 g2
   simp only [List.map_cons, List.sum_cons, List.any_cons] at g1 g2
   have hf : ((nth l (pk l x)).against != car) = false := by
    unfold agB at hag; simpa using hag
   have ht : decide ((x : Int) < ((prot l l.length).length : Int)) = true := decide_eq_true hlt3
   have hct : ctb c l m x = if fB c l x m = true then fP c l x m else 0 := rfl
   have hcp : cpr c l m x = ((rState c l x m == 1) || (rState c l x m == 3) || (rState c l x m == 4)) := rfl
   rw [hct] at g1 hbx
   rw [hcp] at g2
   cases hfb : fB c l x m
   ·rw [hfb] at g1 hbx h78
    simp only [Bool.false_eq_true, if_false] at g1 hbx
    repeat' (first | ((with_reducible apply nrm); (· simp only [sbe]; rfl)) | ((with_reducible apply u_iteT); (· rfl); (· exact ht)) | ((with_reducible apply u_iteF); (· rfl); (· first | exact hf | exact rfl)) | ((with_reducible apply u_chk); (· rfl)) | ((with_reducible apply u_eaddr); (· rfl); (· rfl); (· first | exact hpe.1 | exact hpe.2); (· simp only [sbe]; rfl)) | ((with_reducible apply u_lenL); (· rfl); (· exact lenL_map); (· simp only [sbe]; rfl)) | ((with_reducible apply u_inc); (· rfl); (· omega); (· simp only [sbe]; rfl)) | ((with_reducible apply u_ev); (· rfl); (· simp only [sbe]; rfl)) | ((with_reducible apply u_call); (· rfl); (· rfl); (· first | exact h78 | exact h33); (· rfl); (· simp only [sbe]; rfl)) | ((with_reducible apply u_or); (· rfl)) | (with_reducible refine u_join ?_) | ((with_reducible apply u_jump); (· rfl); (· rfl)) | (with_reducible refine at_jump ?_) | (with_reducible refine kj rfl ?_) | (with_reducible exact u_ret rfl rfl) | ((with_reducible intro hz); (try simp only [sbs] at hz)))
    exact hR (s1, s2 || rState c l x m == 1 || rState c l x m == 3 || rState c l x m == 4) ⟨by simp only; omega, by simpa [Bool.or_assoc] using g2, by simp only; omega, by simp only; omega⟩
   ·rw [hfb] at g1 hbx h78
    simp only [if_true] at g1 hbx
    repeat' (first | ((with_reducible apply nrm); (· simp only [sbe]; rfl)) | ((with_reducible apply u_iteT); (· rfl); (· first | exact ht | exact rfl)) | ((with_reducible apply u_iteF); (· rfl); (· exact hf)) | ((with_reducible apply u_chk); (· rfl)) | ((with_reducible apply u_eaddr); (· rfl); (· rfl); (· first | exact hpe.1 | exact hpe.2); (· simp only [sbe]; rfl)) | ((with_reducible apply u_lenL); (· rfl); (· exact lenL_map); (· simp only [sbe]; rfl)) | ((with_reducible apply u_inc); (· rfl); (· omega); (· simp only [sbe]; rfl)) | ((with_reducible apply u_add); (· rfl); (· rfl); (· omega); (· simp only [sbe]; rfl)) | ((with_reducible apply u_ev); (· rfl); (· simp only [sbe]; rfl)) | ((with_reducible apply u_call); (· rfl); (· rfl); (· first | exact h78 | exact h33); (· rfl); (· simp only [sbe]; rfl)) | ((with_reducible apply u_or); (· rfl)) | (with_reducible refine u_join ?_) | ((with_reducible apply u_jump); (· rfl); (· rfl)) | (with_reducible refine at_jump ?_) | (with_reducible refine kj rfl ?_) | (with_reducible exact u_ret rfl rfl) | ((with_reducible intro hz); (try simp only [sbs] at hz)))
    exact hR (s1 + fP c l x m, s2 || rState c l x m == 1 || rState c l x m == 3 || rState c l x m == 4) ⟨by simp only; omega, by simpa [Bool.or_assoc] using g2, by simp only; omega, by simp only; omega⟩
  ·rw [if_neg hag] at g1 g2
   have hf : ((nth l (pk l x)).against != car) = true := by
    unfold agB at hag; simpa using hag
   have ht : decide ((x : Int) < ((prot l l.length).length : Int)) = true := decide_eq_true hlt3
   repeat' (first | ((with_reducible apply nrm); (· simp only [sbe]; rfl)) | ((with_reducible apply u_iteT); (· rfl); (· first | exact ht | exact hf)) | ((with_reducible apply u_chk); (· rfl)) | ((with_reducible apply u_eaddr); (· rfl); (· rfl); (· first | exact hpe.1 | exact hpe.2); (· simp only [sbe]; rfl)) | ((with_reducible apply u_lenL); (· rfl); (· exact lenL_map); (· simp only [sbe]; rfl)) | ((with_reducible apply u_inc); (· rfl); (· omega); (· simp only [sbe]; rfl)) | ((with_reducible apply u_ev); (· rfl); (· simp only [sbe]; rfl)) | (with_reducible refine u_join ?_) | ((with_reducible apply u_jump); (· rfl); (· rfl)) | (with_reducible refine at_jump ?_) | (with_reducible refine kj rfl ?_))
   exact hR (s1, s2) ⟨g1, g2, by simp only at *; omega, by simp only at *; omega⟩
 ·obtain ⟨s1, s2⟩ := s
  obtain ⟨g1, g2, g3, g4⟩ := hG
  simp only [List.filter_nil, List.map_nil, List.sum_nil, List.any_nil, Bool.or_false] at g1 g2
  have g1' : s1 = penR c l car m := by omega
  subst g1' g2
  rw [List.length_range]
  have hf : decide (((pro l).length : Int) < ((prot l l.length).length : Int)) = false := by unfold pro; simp
  repeat' (first | ((with_reducible apply nrm); (· simp only [sbe]; rfl)) | ((with_reducible apply u_iteF); (· rfl); (· exact hf)) | ((with_reducible apply u_lenL); (· rfl); (· exact lenL_map); (· simp only [sbe]; rfl)) | ((with_reducible apply u_ev); (· rfl); (· simp only [sbe]; rfl)) | (with_reducible refine u_join ?_) | ((with_reducible apply u_jump); (· rfl); (· rfl)) | (with_reducible refine at_jump ?_) | (with_reducible refine over_jump (by decide) ?_) | (with_reducible refine kj rfl ?_))
  refine u_list l (fun (b : Bool) i => [B b, I i]) (fun r b => (b || r.any (pubW c m)) = prvR c l car m) ((agC l car).any (cpr c l m)) rfl (fun _ _ => rfl) rfl (fun i x b hx hlt hG R hR => ?_) (fun b hG R => ?_)
  ·have hmx := hI.mins x (List.mem_of_getElem? hx)
   unfold inR at hmx
   simp only [Bool.and_eq_true, decide_eq_true_eq] at hmx
   obtain ⟨_, rfl⟩ := List.getElem?_eq_some_iff.1 hx
   simp only [List.any_cons] at hG
   have h55 := c55 (bs := bs) (m - l[i].minute) 0 c.window
   repeat' (first | ((with_reducible apply nrm); (· simp only [sbe]; rfl)) | ((with_reducible apply u_chk); (· rfl)) | ((with_reducible apply u_eaddr); (· rfl); (· rfl); (· exact eaddr_get hlt rfl); (· simp only [sbe]; rfl)) | ((with_reducible apply u_lenL); (· rfl); (· exact lenL_map); (· simp only [sbe]; rfl)) | ((with_reducible apply u_inc); (· rfl); (· omega); (· simp only [sbe]; rfl)) | ((with_reducible apply u_sub); (· rfl); (· rfl); (· omega); (· simp only [sbe]; rfl)) | ((with_reducible apply u_ev); (· rfl); (· simp only [sbe]; rfl)) | ((with_reducible apply u_call); (· rfl); (· rfl); (· exact h55); (· rfl); (· simp only [sbe]; rfl)) | ((with_reducible apply u_and); (· rfl)) | (with_reducible refine u_join ?_) | ((with_reducible apply u_jump); (· rfl); (· rfl)) | (with_reducible refine at_jump ?_) | (with_reducible refine kj rfl ?_) | ((with_reducible apply u_phiS); (· rfl); all_goals (intro hz; (try simp only [sbs] at hz); first | (exact absurd hz (by decide)) | (exfalso; omega) | (refine ⟨_, rfl, ?_⟩))) | ((with_reducible apply u_ite); (· rfl); all_goals (intro hz; (try simp only [sbs] at hz); first | (exact absurd hz (by decide)) | (exfalso; omega) | skip)) | (with_reducible exact u_ret rfl rfl) | ((with_reducible intro hz); (try simp only [sbs] at hz)))
   ·have hp : pubW c m l[i] = true := by unfold pubW; simp [hz]
    rw [hp] at hG
    exact hR true (by simpa using hG)
   ·have hp : pubW c m l[i] = false := by unfold pubW; rcases hz with h1 | h1 <;> simp [h1]
    rw [hp] at hG
    exact hR b (by simpa using hG)
  ·repeat' (first | ((with_reducible apply nrm); (· simp only [sbe]; rfl)) | ((with_reducible apply u_lenL); (· rfl); (· exact lenL_map); (· simp only [sbe]; rfl)) | ((with_reducible apply u_ev); (· rfl); (· simp only [sbe]; rfl)) | ((with_reducible apply u_jump); (· rfl); (· rfl)) | (with_reducible refine at_jump ?_) | (with_reducible refine over_jump (by decide) ?_) | (with_reducible refine kj rfl ?_) | ((with_reducible apply u_ite); (· rfl); all_goals (intro hz; (try simp only [sbs] at hz); first | (exact absurd hz (by decide)) | (exfalso; omega) | skip)) | ((with_reducible apply u_ret); (· rfl); first | exact rfl | (refine retB ?_) | (refine retI ?_) | (refine retD ?_)))
   have hG' : (b || false) = prvR c l car m := hG
   rw [Bool.or_false] at hG'
   rw [hG']

end Go.Am.Ct

/-
 What is paid and what is given back: the court's account and the specification's.
-/
namespace Go.Am.Ct
open Go.Proofs Go.Am.Ap
set_option maxHeartbeats 1000000

variable {c : Cod} {l : List Akt} {a : Akt}

attribute [local irreducible] inR

/-! ## sums -/

def sumTo (f : Nat → Int) (n : Nat) : Int := ((List.range n).map f).sum

theorem sumTo_succ (f : Nat → Int) (n : Nat) : sumTo f (n + 1) = sumTo f n + f n := by
 unfold sumTo
 rw [List.range_succ, List.map_append, List.sum_append]
 simp

theorem sumTo_congr {f g : Nat → Int} : ∀ {n : Nat}, (∀ k, k < n → f k = g k) → sumTo f n = sumTo g n
 | 0, _ => rfl
 | n + 1, h => by rw [sumTo_succ, sumTo_succ, sumTo_congr fun k hk => h k (by omega), h n (by omega)]

/-! ## the walk over a case's acts -/

def blStep (l : List Akt) (i : Nat) (s : Option Nat × Option Nat × Int) : Option Nat × Option Nat × Int :=
 if (nth l i).kind = 3 then (some i, s.2.1, s.2.2) else if (nth l i).kind = 4 then (s.1, s.2.1, (nth l i).by_) else if (nth l i).kind = 5 then (s.1, some i, s.2.2) else s

def blGo (l : List Akt) (m : Int) : List Nat → Option Nat × Option Nat × Int → Option Nat × Option Nat × Int
 | [], s => s
 | i :: r, s => if m < (nth l i).minute then s else blGo l m r (blStep l i s)

theorem blGo_cons (l : List Akt) (m : Int) (i : Nat) (r : List Nat) (s : Option Nat × Option Nat × Int) : blGo l m (i :: r) s = if m < (nth l i).minute then s else blGo l m r (blStep l i s) := rfl

theorem blGo_opt {m : Int} {s : Option Nat × Option Nat × Int} {x : Int} {r : List Nat} : blGo l m (opt x ++ r) s = if 0 ≤ x then (if m < (nth l x.toNat).minute then s else blGo l m r (blStep l x.toNat s)) else blGo l m r s := by
 unfold opt
 split
 ·rfl
 ·rfl

theorem blGo_opt1 {m : Int} {s : Option Nat × Option Nat × Int} {x : Int} : blGo l m (opt x) s = if 0 ≤ x then (if m < (nth l x.toNat).minute then s else blStep l x.toNat s) else s := by
 unfold opt
 split
 ·rfl
 ·rfl

def optN (x : Int) : Option Nat := if 0 ≤ x then some x.toNat else none
def byN (l : List Akt) (x : Int) : Int := if 0 ≤ x then (nth l x.toNat).by_ else 0

theorem bl_eq (h : Inv c l) {k p : Nat} (hp : (pro l)[k]? = some p) {m : Int} (hm : m ≤ MM) (hpm : (nth l p).minute ≤ m) : blGo l m (idxOf l k p) (none, none, 0) = (optN (rlast l 3 k m), optN (rlast l 5 k m), byN l (rlast l 4 k m)) := by
 have hkd : (nth l p).kind = 2 := pro_kind (List.mem_of_getElem? hp)
 have s := h.shape k
 unfold idxOf
 rw [blGo_cons, if_neg (by omega)]
 simp only [blGo_opt, blGo_opt1]
 rw [rl_m h (by omega : (3 : Int) ≤ 3) hm, rl_m h (by omega : (3 : Int) ≤ 4) hm, rl_m h (by omega : (3 : Int) ≤ 5) hm]
 have e0 : blStep l p (none, none, 0) = (none, none, 0) := by simp [blStep, hkd]
 rw [e0]
 have s1 := s.dx
 have s2 := s.da
 have s3 := s.aj
 have s4 := s.oa
 have s5 := s.oj
 have mono : ∀ x y : Int, 0 ≤ x → x < y → y < l.length → (nth l x.toNat).minute ≤ (nth l y.toNat).minute := fun x y h0 h1 h2 => h.sorted _ _ (by omega) (by omega)
 have l3 := (rlast_lt l 3 k MM).2
 have l4 := (rlast_lt l 4 k MM).2
 have l5 := (rlast_lt l 5 k MM).2
 have kinds : ∀ kd : Int, 0 ≤ rlast l kd k MM → (nth l (rlast l kd k MM).toNat).kind = kd := fun kd h0 => by
  obtain ⟨i, hi, _, hk, _⟩ := at_of h0
  rw [hi]
  simpa using hk
 by_cases h6 : 0 ≤ rlast l 6 k MM
 ·have h3 : ¬ 0 ≤ rlast l 3 k MM := by omega
  have h4 : ¬ 0 ≤ rlast l 4 k MM := by omega
  have h5 : ¬ 0 ≤ rlast l 5 k MM := by omega
  have k6 := kinds 6 h6
  by_cases g : (nth l (rlast l 6 k MM).toNat).minute ≤ m
  ·have g' := Int.not_lt.2 g
   simp [h3, h4, h5, h6, g', blStep, k6, optN, byN]
  ·have g' := Int.not_le.1 g
   simp [h3, h4, h5, h6, g', optN, byN]
 ·by_cases h3 : 0 ≤ rlast l 3 k MM
  ·have k3 := kinds 3 h3
   by_cases g3 : (nth l (rlast l 3 k MM).toNat).minute ≤ m
   ·have g3' := Int.not_lt.2 g3
    by_cases h4 : 0 ≤ rlast l 4 k MM
    ·have k4 := kinds 4 h4
     by_cases g4 : (nth l (rlast l 4 k MM).toNat).minute ≤ m
     ·have g4' := Int.not_lt.2 g4
      by_cases h5 : 0 ≤ rlast l 5 k MM
      ·have k5 := kinds 5 h5
       by_cases g5 : (nth l (rlast l 5 k MM).toNat).minute ≤ m
       ·have g5' := Int.not_lt.2 g5
        simp [h3, h4, h5, h6, g3, g3', g4, g4', g5, g5', blStep, k3, k4, k5, optN, byN]
       ·have g5' := Int.not_le.1 g5
        simp [h3, h4, h5, h6, g3, g3', g4, g4', g5, g5', blStep, k3, k4, optN, byN]
      ·simp [h3, h4, h5, h6, g3, g3', g4, g4', blStep, k3, k4, optN, byN]
     ·have g4' := Int.not_le.1 g4
      have h5n : ¬ (0 ≤ rlast l 5 k MM ∧ (nth l (rlast l 5 k MM).toNat).minute ≤ m) := fun hh => by
       have := mono _ _ h4 (s5 hh.1) l5
       omega
      simp [h3, h4, h5n, h6, g3, g3', g4, g4', blStep, k3, optN, byN]
    ·have h5 : ¬ 0 ≤ rlast l 5 k MM := by omega
     simp [h3, h4, h5, h6, g3, g3', blStep, k3, optN, byN]
   ·have g3' := Int.not_le.1 g3
    have h4n : ¬ (0 ≤ rlast l 4 k MM ∧ (nth l (rlast l 4 k MM).toNat).minute ≤ m) := fun hh => by
     have := mono _ _ h3 (s4 hh.1) l4
     omega
    have h5n : ¬ (0 ≤ rlast l 5 k MM ∧ (nth l (rlast l 5 k MM).toNat).minute ≤ m) := fun hh => by
     have h40 : 0 ≤ rlast l 4 k MM := by omega
     have e1 := mono _ _ h40 (s5 hh.1) l5
     have e2 := mono _ _ h3 (s4 h40) l4
     omega
    simp [h3, h4n, h5n, h6, g3, g3', optN, byN]
  ·have h4 : ¬ 0 ≤ rlast l 4 k MM := by omega
   have h5 : ¬ 0 ≤ rlast l 5 k MM := by omega
   simp [h3, h4, h5, h6, optN, byN]

/-! ## the accounts -/

def feeB (c : Cod) (l : List Akt) (car m : Int) (k : Nat) : Bool := ((nth l (pk l k)).by_ == car && stR c l k m != 2) && !((stR c l k m == 5 && (rulR l k m).isSome) && ((rulR l k m).getD Akt.zero).upheld)
def chgB (l : List Akt) (m : Int) (k : Nat) : Bool := decide (0 ≤ rlast l 5 k m) && ((nth l (rlast l 5 k m).toNat).upheld != (nth l (rlast l 3 k m).toNat).upheld || (nth l (rlast l 5 k m).toNat).penalty != (nth l (rlast l 3 k m).toNat).penalty)
def prcB (l : List Akt) (car m : Int) (k : Nat) : Bool := byN l (rlast l 4 k m) == car && !chgB l m k
def balK (c : Cod) (l : List Akt) (car m : Int) (k : Nat) : Int := if (nth l (pk l k)).minute ≤ m then (if feeB c l car m k = true then c.fee else 0) + (if prcB l car m k = true then c.price else 0) else 0
def balC (c : Cod) (l : List Akt) (car m : Int) : Int := sumTo (balK c l car m) (pro l).length

theorem pk_get {k : Nat} (h : k < (pro l).length) : pk l k = (pro l)[k] := by unfold pk; simp [h]
theorem pk_lt {k : Nat} (h : k < (pro l).length) : pk l k < l.length := by
 rw [pk_get h]
 exact prot_lt l l.length _ (List.getElem_mem h)

theorem pk_left {k : Nat} (h : k < (pro l).length) : pk (l ++ [a]) k = pk l k := by
 have h' : k < (pro (l ++ [a])).length := by
  rw [pro_snoc]
  split
  ·rw [List.length_append]; omega
  ·exact h
 rw [pk_get h, pk_get h']
 simp only [pro_snoc]
 split
 ·rw [List.getElem_append_left h]
 ·rfl

theorem there_no' {k : Nat} {m : Int} (h : ¬ (nth l (pk l k)).minute ≤ m) : thereB l k m = false := by
 unfold thereB
 rw [decide_eq_false h]
 simp

theorem there_yes' {k : Nat} {m : Int} (hk : k < (pro l).length) (h : (nth l (pk l k)).minute ≤ m) : thereB l k m = true := by
 unfold thereB
 rw [decide_eq_true h]
 simp
 omega

end Go.Am.Ct

/-
 The specification's Balance.
-/
namespace Go.Am.Ct
open Go.Proofs Go.Am.Ap
set_option maxRecDepth 100000
set_option maxHeartbeats 4000000

variable {bs : List D} {j : Nat} {c : Cod} {l : List Akt} {a : Akt} {F : Nat → Prop}

attribute [local irreducible] inR

theorem rl_54 (hI : Inv c l) {k m : Int} (hm : m ≤ MM) (h : 0 ≤ rlast l 5 k m) : 0 ≤ rlast l 4 k m := by
 have s := hI.shape k
 have s3 := s.aj
 have s5 := s.oj
 have r4 := rl_m hI (by omega : (3 : Int) ≤ 4) hm (k := k)
 have r5 := rl_m hI (by omega : (3 : Int) ≤ 5) hm (k := k)
 have l5 := (rlast_lt l 5 k MM).2
 rw [r5] at h
 split at h
 ·rename_i hh
  have h4 : 0 ≤ rlast l 4 k MM := by omega
  have := hI.sorted (rlast l 4 k MM).toNat (rlast l 5 k MM).toNat (by omega) (by omega)
  rw [r4, if_pos ⟨h4, by omega⟩]
  exact h4
 ·omega

theorem rl_43 (hI : Inv c l) {k m : Int} (hm : m ≤ MM) (h : 0 ≤ rlast l 4 k m) : 0 ≤ rlast l 3 k m := by
 have s := hI.shape k
 have s2 := s.da
 have s4 := s.oa
 have r4 := rl_m hI (by omega : (3 : Int) ≤ 4) hm (k := k)
 have r3 := rl_m hI (by omega : (3 : Int) ≤ 3) hm (k := k)
 have l4 := (rlast_lt l 4 k MM).2
 rw [r4] at h
 split at h
 ·rename_i hh
  have h3 : 0 ≤ rlast l 3 k MM := by omega
  have := hI.sorted (rlast l 3 k MM).toNat (rlast l 4 k MM).toNat (by omega) (by omega)
  rw [r3, if_pos ⟨h3, by omega⟩]
  exact h3
 ·omega

end Go.Am.Ct

/-
 The acts up to a minute, one after the other.
-/
namespace Go.Am.Ct
open Go.Proofs Go.Am.Ap
set_option maxRecDepth 100000
set_option maxHeartbeats 4000000

variable {bs : List D} {j : Nat} {c : Cod} {l : List Akt} {a : Akt} {F : Nat → Prop}

attribute [local irreducible] inR

theorem c77 (m : Int) : FSpecR Try.prog 77 (.st bs) [.loc j 0, I m] (.fn 101 [] [.ptr [.loc j 0], .ptr [I m]]) := by
 refine ku77.R rfl rfl ?_
 unfold u77
 simp only [ups_cons, ups_nil, List.cons_append, List.nil_append]
 repeat' (first | ((with_reducible apply u_ev); (· rfl); (· simp only [sbe]; rfl)) | (with_reducible exact u_ret rfl rfl))

theorem c101 {sa sf : D} (f : Nat → List D) {m : Int} {k : Nat} (hL : l.length ≤ 1000000) (hk : k ≤ l.length) (hact : ∀ i, i ≤ k → ActsAt (f i) j c l sa sf) (hlow : ∀ i (h : i < l.length), i < k → l[i].minute ≤ m) (hup : ∀ h : k < l.length, m < l[k].minute) {m0 : Nat} {rec : Loop} {sl : List Nat} {cds : List D} (hy : ∀ i (h : i < l.length), i < k → YSpec Try.prog (.yl m0 rec sl cds) (.st (f i)) [I i, l[i].d] (.st (f (i + 1)))) : FSpecW Try.prog 101 (.st (f 0)) [.yl m0 rec sl cds, .ptr [.loc j 0], .ptr [I m]] (.tup []) (.st (f k)) := by
 have h0 := hact 0 (Nat.zero_le _)
 refine ku101.W rfl ?_
 unfold u101
 simp only [ups_cons, ups_nil, List.cons_append, List.nil_append]
 repeat' (first | ((with_reducible apply u_chk); (· rfl)) | ((with_reducible apply u_ld); (· rfl); (· rfl); (· exact ld_blk h0.1 rfl); (· simp only [sbe]; rfl)) | ((with_reducible apply u_lenL); (· rfl); (· exact h0.2.len); (· simp only [sbe]; rfl)) | ((with_reducible apply u_ev); (· rfl); (· simp only [sbe]; rfl)) | (with_reducible refine u_join ?_))
 refine u_range (fun i => [I i, .st (f i)]) (fun _ => True) k rfl (fun _ => rfl) trivial (fun i hi _ R hR => ?_) (fun _ R => ?_)
 ·have hA := (hact i (by omega)).2
  have hil : i < l.length := by omega
  obtain ⟨b, rfl, hb⟩ := hA.get hil
  have hcf : decide (l[i].minute > m) = false := by have := hlow i hil hi; simp; omega
  have hcf2 : (decide (l[i].minute > m) || !true) = false := by rw [hcf]; rfl
  have hcl : decide ((i : Int) < (l.length : Int)) = true := by simp; omega
  repeat' (first | ((with_reducible apply nrm); (· simp only [sbe]; rfl)) | ((with_reducible apply u_genA); (· rfl); (· exact hcf); (· rfl); (· rfl); (· rfl); (· exact ⟨rfl, hy i hil hi⟩); (· rfl); (· simp only [sbe]; rfl)) | ((with_reducible apply u_iteT); (· rfl); (· exact hcl)) | ((with_reducible apply u_iteF); (· rfl); (· exact hcf2)) | ((with_reducible apply u_chk); (· rfl)) | ((with_reducible apply u_ld); (· rfl); (· rfl); (· exact ld_el hb (fun _ => rfl) (List.getElem?_eq_getElem hil)); (· simp only [sbe]; rfl)) | ((with_reducible apply u_eaddr); (· rfl); (· rfl); (· exact eaddr_sl hil); (· simp only [sbe]; rfl)) | ((with_reducible apply u_inc); (· rfl); (· omega); (· simp only [sbe]; rfl)) | ((with_reducible apply u_ev); (· rfl); (· simp only [sbe]; rfl)) | ((with_reducible apply u_or); (· rfl)) | (with_reducible refine u_join ?_) | ((with_reducible apply u_jump); (· rfl); (· rfl)) | (with_reducible refine at_jump ?_) | (with_reducible refine kj rfl ?_) | (with_reducible exact u_ret rfl rfl) | ((with_reducible intro hz); (try simp only [sbs] at hz)))
  exact hR trivial
 ·rcases Nat.lt_or_ge k l.length with h | h
  ·have hA := (hact k (by omega)).2
   obtain ⟨b, rfl, hb⟩ := hA.get h
   have hct : decide (l[k].minute > m) = true := by have := hup h; simp; omega
   have hcl : decide ((k : Int) < (l.length : Int)) = true := by simp; omega
   repeat' (first | ((with_reducible apply nrm); (· simp only [sbe]; rfl)) | ((with_reducible apply u_genN (.v (.bool false))); (· rfl); (· exact hct); (· rfl); (· simp only [sbe]; rfl)) | ((with_reducible apply u_orT); (· rfl); (· exact hct)) | ((with_reducible apply u_iteT); (· rfl); (· first | exact hcl | exact rfl)) | ((with_reducible apply u_chk); (· rfl)) | ((with_reducible apply u_ld); (· rfl); (· rfl); (· exact ld_el hb (fun _ => rfl) (List.getElem?_eq_getElem h)); (· simp only [sbe]; rfl)) | ((with_reducible apply u_eaddr); (· rfl); (· rfl); (· exact eaddr_sl h); (· simp only [sbe]; rfl)) | ((with_reducible apply u_ev); (· rfl); (· simp only [sbe]; rfl)) | (with_reducible refine u_join ?_) | ((with_reducible apply u_ret); (· rfl); first | exact rfl | (refine retB ?_) | (refine retI ?_) | (refine retD ?_)))
  ·have hcl : decide ((k : Int) < (l.length : Int)) = false := by simp; omega
   repeat' (first | ((with_reducible apply nrm); (· simp only [sbe]; rfl)) | ((with_reducible apply u_iteF); (· rfl); (· exact hcl)) | ((with_reducible apply u_ev); (· rfl); (· simp only [sbe]; rfl)) | ((with_reducible apply u_jump); (· rfl); (· rfl)) | (with_reducible refine at_jump ?_) | (with_reducible refine over_jump (by decide) ?_) | (with_reducible refine kj rfl ?_) | (with_reducible exact u_ret rfl rfl))

end Go.Am.Ct

/-
 The court's Penalty.
-/
namespace Go.Am.Ct
open Go.Proofs Go.Am.Ap
set_option maxRecDepth 100000
set_option maxHeartbeats 4000000

variable {bs : List D} {j : Nat} {c : Cod} {l : List Akt} {a : Akt} {F : Nat → Prop}

attribute [local irreducible] inR

theorem filter_sum {P Q : Nat → Bool} {f : Nat → Int} : ∀ {r : List Nat}, (∀ k, k ∈ r → P k = true → Q k = true) → (∀ k, k ∈ r → Q k = true → P k = false → f k = 0) → ((r.filter P).map f).sum = ((r.filter Q).map f).sum
 | [], _, _ => rfl
 | k :: r, h1, h2 => by
  have ih := filter_sum (f := f) (r := r) (fun k hk => h1 k (by simp [hk])) (fun k hk => h2 k (by simp [hk]))
  rw [List.filter_cons, List.filter_cons]
  cases hp : P k
  ·cases hq : Q k
   ·simpa using ih
   ·simp [ih, h2 k (by simp) hq hp]
  ·simp [ih, h1 k (by simp) hp]

theorem filter_any {P Q : Nat → Bool} {f : Nat → Bool} : ∀ {r : List Nat}, (∀ k, k ∈ r → P k = true → Q k = true) → (∀ k, k ∈ r → Q k = true → P k = false → f k = false) → (r.filter P).any f = (r.filter Q).any f
 | [], _, _ => rfl
 | k :: r, h1, h2 => by
  have ih := filter_any (f := f) (r := r) (fun k hk => h1 k (by simp [hk])) (fun k hk => h2 k (by simp [hk]))
  rw [List.filter_cons, List.filter_cons]
  cases hp : P k
  ·cases hq : Q k
   ·simpa using ih
   ·simp [ih, h2 k (by simp) hq hp]
  ·simp [ih, h1 k (by simp) hp]

theorem there_no {k : Nat} {m : Int} (h : ¬ (nth l (pk l k)).minute ≤ m) : thereB l k m = false := by
 unfold thereB
 rw [decide_eq_false h]
 simp

theorem there_yes {k : Nat} {m : Int} (hk : k < (pro l).length) (h : (nth l (pk l k)).minute ≤ m) : thereB l k m = true := by
 unfold thereB
 rw [decide_eq_true h]
 simp
 omega

theorem ags_mem {car m : Int} {k : Nat} (h : k ∈ ags l car m) : k < (pro l).length ∧ (nth l (pk l k)).minute ≤ m ∧ (nth l (pk l k)).against = car := by
 unfold ags agP at h
 simp only [List.mem_filter, List.mem_range, Bool.and_eq_true, decide_eq_true_eq] at h
 exact h

theorem ags_sum (c : Cod) (car m : Int) : ((ags l car m).map (ctb c l m)).sum = penR c l car m := by
 unfold ags penR agC
 refine filter_sum (fun k _ h => ?_) (fun k _ h1 h2 => ?_)
 ·unfold agP at h; unfold agB; simp at h ⊢; exact h.2
 ·unfold agP at h2
  unfold agB at h1
  rw [h1, Bool.and_true, decide_eq_false_iff_not] at h2
  unfold ctb fB
  rw [there_no h2]
  simp

theorem ags_any (c : Cod) (car m : Int) : (ags l car m).any (cpr c l m) = (agC l car).any (cpr c l m) := by
 unfold ags agC
 refine filter_any (fun k _ h => ?_) (fun k _ h1 h2 => ?_)
 ·unfold agP at h; unfold agB; simp at h ⊢; exact h.2
 ·unfold agP at h2
  unfold agB at h1
  rw [h1, Bool.and_true, decide_eq_false_iff_not] at h2
  unfold cpr rState
  rw [there_no h2]
  simp

def upN (l : List Akt) (m : Int) : Nat := (l.takeWhile fun a => decide (a.minute ≤ m)).length

theorem upN_le (l : List Akt) (m : Int) : upN l m ≤ l.length := by
 unfold upN
 exact (List.takeWhile_sublist _).length_le

theorem upN_low {m : Int} : ∀ {l : List Akt} {i : Nat} (h : i < l.length), i < upN l m → l[i].minute ≤ m
 | [], i, h, _ => by simp at h
 | a :: r, i, h, hi => by
  unfold upN at hi
  rw [List.takeWhile_cons] at hi
  split at hi
  ·rename_i ha
   cases i with
   | zero => simpa using ha
   | succ i => exact upN_low (l := r) (by simpa using h) (by unfold upN; simpa using hi)
  ·simp at hi

theorem upN_up {m : Int} : ∀ {l : List Akt} (h : upN l m < l.length), m < l[upN l m].minute
 | [], h => by simp at h
 | a :: r, h => by
  by_cases ha : a.minute ≤ m
  ·have e : upN (a :: r) m = upN r m + 1 := by unfold upN; rw [List.takeWhile_cons, if_pos (by simpa using ha)]; simp
   have := upN_up (l := r) (m := m) (by rw [e] at h; simpa using h)
   simp only [e, List.getElem_cons_succ]
   exact this
  ·have e : upN (a :: r) m = 0 := by unfold upN; rw [List.takeWhile_cons, if_neg (by simpa using ha)]; rfl
   simp only [e, List.getElem_cons_zero]
   omega

def pubC (c : Cod) (m : Int) (a : Akt) : Bool := decide (a.kind = 1) && decide (m - a.minute ≤ c.window)

theorem up_any (hI : Inv c l) (m : Int) : (l.take (upN l m)).any (pubC c m) = l.any (pubW c m) := by
 rw [Bool.eq_iff_iff, List.any_eq_true, List.any_eq_true]
 constructor
 ·rintro ⟨a, ha, hp⟩
  obtain ⟨i, hi, rfl⟩ := List.mem_iff_getElem.1 ha
  have hi2 : i < upN l m ∧ i < l.length := by simp at hi; omega
  have hlow := upN_low hi2.2 hi2.1
  rw [List.getElem_take] at hp
  refine ⟨l[i], List.getElem_mem _, ?_⟩
  unfold pubC at hp
  unfold pubW inR
  simp only [Bool.and_eq_true, decide_eq_true_eq] at hp ⊢
  omega
 ·rintro ⟨a, ha, hp⟩
  obtain ⟨i, hi, rfl⟩ := List.mem_iff_getElem.1 ha
  unfold pubW inR at hp
  simp only [Bool.and_eq_true, decide_eq_true_eq] at hp
  have hlt : i < upN l m := by
   rcases Nat.lt_or_ge i (upN l m) with h | h
   ·exact h
   ·exfalso
    have h1 : upN l m < l.length := by omega
    have h2 := upN_up h1
    have h3 := hI.sorted _ _ h hi
    rw [nth_get h1, nth_get hi] at h3
    omega
  refine ⟨l[i], ?_, ?_⟩
  ·rw [List.mem_iff_getElem]
   exact ⟨i, by simp; omega, by simp⟩
  ·unfold pubC
   simp only [Bool.and_eq_true, decide_eq_true_eq]
   omega

def ysto (bs : List D) (c : Cod) (m : Int) (l : List Akt) (p : Bool) (i : Nat) : List D := bs ++ .blk 4 1 [B (p || (l.take i).any (pubC c m))] :: (l.take i).map fun a => .blk 43 12 a.cs

def penB (c : Cod) (car m : Int) : Bool := inR car 1 c.cars && inR m 0 10000000
def penE (c : Cod) (car m : Int) : Int := if penB c car m = true then 0 else 2
def penA (c : Cod) (l : List Akt) (car m : Int) : Int := if penB c car m = true then penR c l car m else 0
def prvA (c : Cod) (l : List Akt) (car m : Int) : Bool := penB c car m && prvR c l car m

end Go.Am.Ct

/-
 The court's Balance.
-/
namespace Go.Am.Ct
open Go.Proofs Go.Am.Ap
set_option maxRecDepth 100000
set_option maxHeartbeats 4000000

variable {bs : List D} {j : Nat} {c : Cod} {l : List Akt} {a : Akt} {F : Nat → Prop}

attribute [local irreducible] inR

theorem loop_exit {P : Program} {u : U} {env : List D} {Q : Sig → Prop} {K : List D → Prop} {n : Nat} (X : List D) (h : denU P u env (catchL n (fun ds => ds = X) (fun _ => False))) (k : K X) : denU P u env (catchL n K Q) :=
 denU_mono (fun s hs => by
  cases s with
  | jump l' ds =>
   simp only [catchL] at hs ⊢
   split
   ·rename_i e; rw [if_pos e] at hs; rw [hs]; exact k
   ·rename_i e; rw [if_neg e] at hs; exact hs.elim
  | ret d => exact hs.elim
  | pan d st sl kd => exact hs.elim) h

def ptrD (b : Nat) : Option Nat → D
 | none => .v (.pointer none)
 | some i => .loc b (i * 12)

theorem c45 (hA : Acc c l) (hc : CodOk c) {sa sf : D} {fs : List (Int × D)} (h : Crt bs F j c l (qOf l) sa sf fs) (car m : Int) (hr : penB c car m = true) : FSpecR Try.prog 45 (.st bs) [.loc j 0, I car, I m] (.tup [I (balC c l car m), I 0]) := by
 have hI := inv_of l hA
 have hlen := hI.len
 have hfl : fs.length = (pro l).length := by rw [h.len, qOf_len]
 have hpl : (pro l).length ≤ l.length := by unfold pro; have := prot_len l l.length; omega
 have hfee := hc.fee
 have hprice := hc.price
 have h74 := c74 h.acts car m
 unfold penB at hr
 rw [if_pos hr] at h74
 have hm : 0 ≤ m ∧ m ≤ 10000000 := by
  simp only [Bool.and_eq_true] at hr
  have := hr.2
  unfold inR at this
  simpa using this
 have hb : i64 m := ⟨by omega, by omega⟩
 have hmM : m ≤ MM := by unfold MM; omega
 refine ku45.R rfl rfl ?_
 unfold u45
 simp only [ups_cons, ups_nil, List.cons_append, List.nil_append]
 repeat' (first | ((with_reducible apply u_iteF); (· rfl); (· exact rfl)) | ((with_reducible apply u_chk); (· rfl)) | ((with_reducible apply u_ld); (· rfl); (· rfl); (· exact ld_blk h.acts.1 rfl); (· simp only [sbe]; rfl)) | ((with_reducible apply u_lenL); (· rfl); (· exact h.files.len); (· simp only [sbe]; rfl)) | ((with_reducible apply u_ev); (· rfl); (· simp only [sbe]; rfl)) | ((with_reducible apply u_call); (· rfl); (· rfl); (· exact h74); (· rfl); (· simp only [sbe]; rfl)) | (with_reducible refine u_join ?_))
 refine u_list (List.range fs.length) (fun (s : Int) i => [I s, I i]) (fun r s => s + (r.map (balK c l car m)).sum = balC c l car m ∧ 0 ≤ s ∧ s + 2000000000 * r.length ≤ 2000000000 * 2000) 0 rfl (fun _ _ => rfl) ⟨by rw [hfl]; simp [balC, sumTo], by simp, by simp; omega⟩ (fun i x s hx hlt hG R hR => ?_) (fun s hG R => ?_)
 ·obtain ⟨hlt2, rfl⟩ : i < fs.length ∧ x = i := by
   rw [List.getElem?_range (by simpa using hlt)] at hx
   exact ⟨by simpa using hlt, by simpa using hx.symm⟩
  obtain ⟨f1, f2, f3⟩ := hG
  simp only [List.map_cons, List.sum_cons] at f1
  simp only [List.length_cons] at f3
  obtain ⟨p, hp⟩ : ∃ p, (pro l)[x]? = some p := ⟨_, List.getElem?_eq_getElem (by omega)⟩
  obtain ⟨s0, hF⟩ := h.caseAt hA hp
  have hFs := hF.sl
  obtain ⟨b1, rfl, hb1⟩ := hFs.get (List.length_pos_iff.2 hF.ne)
  have hfs := h.files
  obtain ⟨b, rfl, hbk⟩ := hfs.get hlt2
  have hact := h.acts.2
  obtain ⟨b2, rfl, hb2⟩ := hact.get hF.pl
  have h72 := c72 h.acts hF.pl (b1 := b1) (n1 := (idxOf l x p).length) m
  have hpk : pk l x = p := by unfold pk; simp [hp]
  have hpl2 := hF.pl
  have hli : decide ((x : Int) < (fs.length : Int)) = true := by simp; omega
  by_cases ht : (nth l p).minute ≤ m
  ·rw [decide_eq_true ht] at h72
   have h73 := c73 h.acts (fun a ha => by have := hI.mins a ha; unfold inR at this; simp at this; omega) hF.sl hF.lt hF.len p m hb
   have h84 := c84 h.acts hF.sl hF.lt hF.len p m
   rw [state_eq hI hp hmM ht] at h73
   rw [rul_eq hI hp hmM] at h84
   unfold rcs at h84
   have hbl := bl_eq hI hp hmM ht
   have hpn := nth_get hpl2
   have hbe : balK c l car m x = (if (l[p].by_ = car ∧ ¬ stR c l x m = 2) ∧ ((¬ stR c l x m = 5 ∨ (rulR l x m).isSome = false) ∨ ((rulR l x m).getD Akt.zero).upheld = false) then c.fee else 0) + (if prcB l car m x = true then c.price else 0) := by
    unfold balK feeB
    rw [hpk, if_pos ht, hpn]
    simp only [Bool.and_eq_true, Bool.not_eq_true', Bool.and_eq_false_iff, beq_iff_eq, bne_iff_ne, beq_eq_false_iff_ne, ne_eq]
   rw [hbe] at f1
   repeat' (first | ((with_reducible apply nrm); (· simp only [sbe]; rfl)) | ((with_reducible apply u_iteT); (· rfl); (· exact hli)) | ((with_reducible apply u_iteF); (· rfl); (· exact rfl)) | ((with_reducible apply u_chk); (· rfl)) | ((with_reducible apply u_ld); (· rfl); (· rfl); (· exact ld_el hbk (fun _ => rfl) hF.fk); (· simp only [sbe]; rfl)) | ((with_reducible apply u_eaddr); (· rfl); (· rfl); (· exact eaddr_sl hlt2); (· simp only [sbe]; rfl)) | ((with_reducible apply u_ev); (· rfl); (· simp only [sbe]; rfl)) | ((with_reducible apply u_call); (· rfl); (· rfl); (· exact h72); (· rfl); (· simp only [sbe]; rfl)) | (with_reducible refine u_join ?_))
   refine loop_exit [ptrD b2 (optN (rlast l 3 x m)), ptrD b2 (optN (rlast l 5 x m)), I (byN l (rlast l 4 x m))] ?_ ?_
   ·refine u_list (idxOf l x p) (fun (s : Option Nat × Option Nat × Int) i => [ptrD b2 s.1, ptrD b2 s.2.1, I s.2.2, I i]) (fun r s => blGo l m r s = blGo l m (idxOf l x p) (none, none, 0)) (none, none, 0) rfl (fun _ _ => rfl) rfl (fun i y s hy hlt3 hG R hR => ?_) (fun s hG R => ?_)
    ·have hyl := hF.lt y (List.mem_of_getElem? hy)
     have hln := hF.len
     have hyn := nth_get hyl
     rw [blGo_cons, blStep, hyn] at hG
     obtain ⟨d1, d2, d3⟩ := s
     have hli2 : decide ((i : Int) < ((idxOf l x p).length : Int)) = true := by simp; omega
     by_cases hmy : m < l[y].minute
     ·rw [if_pos hmy, hbl] at hG
      have hgt : decide (l[y].minute > m) = true := by simp; omega
      repeat' (first | ((with_reducible apply nrm); (· simp only [sbe]; rfl)) | ((with_reducible apply u_iteT); (· rfl); (· first | exact hli2 | exact hgt)) | ((with_reducible apply u_chk); (· rfl)) | ((with_reducible apply u_ld); (· rfl); (· rfl); (· first | exact ld_el0 hb1 (fun _ => rfl) hy rfl | exact ld_blk h.acts.1 rfl | exact ld_elc hb2 (fun _ => rfl) (List.getElem?_eq_getElem hyl) rfl); (· simp only [sbe]; rfl)) | ((with_reducible apply u_eaddr); (· rfl); (· rfl); (· first | exact eaddr_sl hlt3 | exact eaddr_sl hyl); (· simp only [sbe]; rfl)) | ((with_reducible apply u_ev); (· rfl); (· simp only [sbe]; rfl)) | (with_reducible refine u_join ?_) | ((with_reducible apply u_jump); (· rfl); (· rfl)) | (with_reducible refine at_jump ?_) | (with_reducible refine over_jump (by decide) ?_))
      simp only [Prod.mk.injEq] at hG
      obtain ⟨rfl, rfl, rfl⟩ := hG
      rfl
     ·rw [if_neg hmy] at hG
      have hgf : decide (l[y].minute > m) = false := by simp; omega
      by_cases k3 : l[y].kind = 3
      ·rw [if_pos k3] at hG
       have e3 : (l[y].kind == 3) = true := by simp [k3]
       repeat' (first | ((with_reducible apply nrm); (· simp only [sbe]; rfl)) | ((with_reducible apply u_iteT); (· rfl); (· first | exact hli2 | exact e3)) | ((with_reducible apply u_iteF); (· rfl); (· exact hgf)) | ((with_reducible apply u_chk); (· rfl)) | ((with_reducible apply u_ld); (· rfl); (· rfl); (· first | exact ld_el0 hb1 (fun _ => rfl) hy rfl | exact ld_blk h.acts.1 rfl | exact ld_elc hb2 (fun _ => rfl) (List.getElem?_eq_getElem hyl) rfl); (· simp only [sbe]; rfl)) | ((with_reducible apply u_eaddr); (· rfl); (· rfl); (· first | exact eaddr_sl hlt3 | exact eaddr_sl hyl); (· simp only [sbe]; rfl)) | ((with_reducible apply u_inc); (· rfl); (· omega); (· simp only [sbe]; rfl)) | ((with_reducible apply u_ev); (· rfl); (· simp only [sbe]; rfl)) | (with_reducible refine u_join ?_) | ((with_reducible apply u_jump); (· rfl); (· rfl)) | (with_reducible refine at_jump ?_) | (with_reducible refine kj rfl ?_))
       exact hR (some y, d2, d3) hG
      ·rw [if_neg k3] at hG
       have e3 : (l[y].kind == 3) = false := by simp [k3]
       by_cases k4 : l[y].kind = 4
       ·rw [if_pos k4] at hG
        have e4 : (l[y].kind == 4) = true := by simp [k4]
        repeat' (first | ((with_reducible apply nrm); (· simp only [sbe]; rfl)) | ((with_reducible apply u_iteT); (· rfl); (· first | exact hli2 | exact e4)) | ((with_reducible apply u_iteF); (· rfl); (· first | exact hgf | exact e3)) | ((with_reducible apply u_chk); (· rfl)) | ((with_reducible apply u_ld); (· rfl); (· rfl); (· first | exact ld_el0 hb1 (fun _ => rfl) hy rfl | exact ld_blk h.acts.1 rfl | exact ld_elc hb2 (fun _ => rfl) (List.getElem?_eq_getElem hyl) rfl); (· simp only [sbe]; rfl)) | ((with_reducible apply u_eaddr); (· rfl); (· rfl); (· first | exact eaddr_sl hlt3 | exact eaddr_sl hyl); (· simp only [sbe]; rfl)) | ((with_reducible apply u_inc); (· rfl); (· omega); (· simp only [sbe]; rfl)) | ((with_reducible apply u_ev); (· rfl); (· simp only [sbe]; rfl)) | (with_reducible refine u_join ?_) | ((with_reducible apply u_jump); (· rfl); (· rfl)) | (with_reducible refine at_jump ?_) | (with_reducible refine kj rfl ?_))
        exact hR (d1, d2, l[y].by_) hG
       ·rw [if_neg k4] at hG
        have e4 : (l[y].kind == 4) = false := by simp [k4]
        by_cases k5 : l[y].kind = 5
        ·rw [if_pos k5] at hG
         repeat' (first | ((with_reducible apply nrm); (· simp only [sbe]; rfl)) | ((with_reducible apply u_iteT); (· rfl); (· exact hli2)) | ((with_reducible apply u_iteF); (· rfl); (· first | exact hgf | exact e3 | exact e4)) | ((with_reducible apply u_chk); (· rfl)) | ((with_reducible apply u_ld); (· rfl); (· rfl); (· first | exact ld_el0 hb1 (fun _ => rfl) hy rfl | exact ld_blk h.acts.1 rfl | exact ld_elc hb2 (fun _ => rfl) (List.getElem?_eq_getElem hyl) rfl); (· simp only [sbe]; rfl)) | ((with_reducible apply u_eaddr); (· rfl); (· rfl); (· first | exact eaddr_sl hlt3 | exact eaddr_sl hyl); (· simp only [sbe]; rfl)) | ((with_reducible apply u_inc); (· rfl); (· omega); (· simp only [sbe]; rfl)) | ((with_reducible apply u_ev); (· rfl); (· simp only [sbe]; rfl)) | (with_reducible refine u_join ?_) | ((with_reducible apply u_jump); (· rfl); (· rfl)) | (with_reducible refine at_jump ?_) | (with_reducible refine kj rfl ?_) | ((with_reducible apply u_phiS); (· rfl); all_goals (intro hz; (try simp only [sbs] at hz); first | (exact absurd hz (by decide)) | (exfalso; omega) | (refine ⟨_, rfl, ?_⟩))))
         exact hR (d1, some y, d3) hG
        ·rw [if_neg k5] at hG
         repeat' (first | ((with_reducible apply nrm); (· simp only [sbe]; rfl)) | ((with_reducible apply u_iteT); (· rfl); (· exact hli2)) | ((with_reducible apply u_iteF); (· rfl); (· first | exact hgf | exact e3 | exact e4)) | ((with_reducible apply u_chk); (· rfl)) | ((with_reducible apply u_ld); (· rfl); (· rfl); (· first | exact ld_el0 hb1 (fun _ => rfl) hy rfl | exact ld_blk h.acts.1 rfl | exact ld_elc hb2 (fun _ => rfl) (List.getElem?_eq_getElem hyl) rfl); (· simp only [sbe]; rfl)) | ((with_reducible apply u_eaddr); (· rfl); (· rfl); (· first | exact eaddr_sl hlt3 | exact eaddr_sl hyl); (· simp only [sbe]; rfl)) | ((with_reducible apply u_inc); (· rfl); (· omega); (· simp only [sbe]; rfl)) | ((with_reducible apply u_ev); (· rfl); (· simp only [sbe]; rfl)) | (with_reducible refine u_join ?_) | ((with_reducible apply u_jump); (· rfl); (· rfl)) | (with_reducible refine at_jump ?_) | (with_reducible refine kj rfl ?_) | ((with_reducible apply u_phiS); (· rfl); all_goals (intro hz; (try simp only [sbs] at hz); first | (exact absurd hz (by decide)) | (exfalso; omega) | (refine ⟨_, rfl, ?_⟩))))
         exact hR (d1, d2, d3) hG
    ·obtain ⟨d1, d2, d3⟩ := s
     have hG' : (d1, d2, d3) = blGo l m (idxOf l x p) (none, none, 0) := hG
     rw [hbl] at hG'
     have hli2 : decide (((idxOf l x p).length : Int) < ((idxOf l x p).length : Int)) = false := by simp
     repeat' (first | ((with_reducible apply nrm); (· simp only [sbe]; rfl)) | ((with_reducible apply u_iteF); (· rfl); (· exact hli2)) | ((with_reducible apply u_ev); (· rfl); (· simp only [sbe]; rfl)) | ((with_reducible apply u_jump); (· rfl); (· rfl)) | (with_reducible refine at_jump ?_) | (with_reducible refine over_jump (by decide) ?_))
     simp only [Prod.mk.injEq] at hG'
     obtain ⟨rfl, rfl, rfl⟩ := hG'
     rfl
   ·refine kj rfl ?_
    by_cases h5 : 0 ≤ rlast l 5 x m
    ·have h3 := rl_43 hI hmM (rl_54 hI hmM h5)
     have l3 := rlast_lt l 3 x m
     have l5 := rlast_lt l 5 x m
     obtain ⟨i3, e3⟩ : ∃ i : Nat, rlast l 3 x m = i := ⟨(rlast l 3 x m).toNat, by omega⟩
     obtain ⟨i5, e5⟩ : ∃ i : Nat, rlast l 5 x m = i := ⟨(rlast l 5 x m).toNat, by omega⟩
     have g3 : i3 < l.length := by omega
     have g5 : i5 < l.length := by omega
     have p3 : ptrD b2 (optN (rlast l 3 x m)) = .loc b2 (i3 * 12) := by unfold optN; rw [if_pos h3, e3]; simp [ptrD]
     have p5 : ptrD b2 (optN (rlast l 5 x m)) = .loc b2 (i5 * 12) := by unfold optN; rw [if_pos h5, e5]; simp [ptrD]
     rw [p3, p5]
     have hpb : prcB l car m x = true ↔ byN l (rlast l 4 x m) = car ∧ (l[i5].upheld = l[i3].upheld ∧ l[i5].penalty = l[i3].penalty) := by
      unfold prcB chgB
      rw [e3, e5]
      simp [nth_get g3, nth_get g5]
     simp only [hpb] at f1
     repeat' (first | ((with_reducible apply nrm); (· simp only [sbe]; rfl)) | ((with_reducible apply u_chk); (· rfl)) | ((with_reducible apply u_ld); (· rfl); (· rfl); (· first | exact ld_blk h.acts.1 rfl | exact ld_elc hb2 (fun _ => rfl) (List.getElem?_eq_getElem hpl2) rfl | exact ld_elc hb2 (fun _ => rfl) (List.getElem?_eq_getElem g5) rfl | exact ld_elc hb2 (fun _ => rfl) (List.getElem?_eq_getElem g3) rfl); (· simp only [sbe]; rfl)) | ((with_reducible apply u_eaddr); (· rfl); (· rfl); (· exact eaddr_sl hpl2); (· simp only [sbe]; rfl)) | ((with_reducible apply u_inc); (· rfl); (· omega); (· simp only [sbe]; rfl)) | ((with_reducible apply u_add); (· rfl); (· rfl); (· omega); (· simp only [sbe]; rfl)) | ((with_reducible apply u_ev); (· rfl); (· simp only [sbe]; rfl)) | ((with_reducible apply u_call); (· rfl); (· rfl); (· first | exact h73 | exact h84); (· rfl); (· simp only [sbe]; rfl)) | ((with_reducible apply u_or); (· rfl)) | ((with_reducible apply u_and); (· rfl)) | (with_reducible refine u_join ?_) | ((with_reducible apply u_jump); (· rfl); (· rfl)) | (with_reducible refine at_jump ?_) | (with_reducible refine kj rfl ?_) | ((with_reducible apply u_ite); (· rfl); all_goals (intro hz; (try simp only [sbs] at hz); first | (exact absurd hz (by decide)) | (exfalso; omega) | skip)) | (with_reducible exact u_ret rfl rfl) | ((with_reducible intro hz); (try simp only [sbs] at hz)))
     all_goals (clear h72 h73 h84 h74 hF hFs hfs hact hb1 hbk hb2 hx hbl h hA; refine hR _ ⟨?_, ?_, ?_⟩ <;> grind)
    ·have p5 : ptrD b2 (optN (rlast l 5 x m)) = .v (.pointer none) := by unfold optN; rw [if_neg h5]; rfl
     rw [p5]
     have hpb : prcB l car m x = true ↔ byN l (rlast l 4 x m) = car := by
      unfold prcB chgB
      rw [decide_eq_false h5]
      simp
     simp only [hpb] at f1
     repeat' (first | ((with_reducible apply nrm); (· simp only [sbe]; rfl)) | ((with_reducible apply u_andF); (· rfl); (· exact rfl)) | ((with_reducible apply u_chk); (· rfl)) | ((with_reducible apply u_ld); (· rfl); (· rfl); (· first | exact ld_blk h.acts.1 rfl | exact ld_elc hb2 (fun _ => rfl) (List.getElem?_eq_getElem hpl2) rfl); (· simp only [sbe]; rfl)) | ((with_reducible apply u_eaddr); (· rfl); (· rfl); (· exact eaddr_sl hpl2); (· simp only [sbe]; rfl)) | ((with_reducible apply u_inc); (· rfl); (· omega); (· simp only [sbe]; rfl)) | ((with_reducible apply u_add); (· rfl); (· rfl); (· omega); (· simp only [sbe]; rfl)) | ((with_reducible apply u_ev); (· rfl); (· simp only [sbe]; rfl)) | ((with_reducible apply u_call); (· rfl); (· rfl); (· first | exact h73 | exact h84); (· rfl); (· simp only [sbe]; rfl)) | ((with_reducible apply u_and); (· rfl)) | (with_reducible refine u_join ?_) | ((with_reducible apply u_jump); (· rfl); (· rfl)) | (with_reducible refine at_jump ?_) | (with_reducible refine kj rfl ?_) | ((with_reducible apply u_ite); (· rfl); all_goals (intro hz; (try simp only [sbs] at hz); first | (exact absurd hz (by decide)) | (exfalso; omega) | skip)) | (with_reducible exact u_ret rfl rfl) | ((with_reducible intro hz); (try simp only [sbs] at hz)))
     all_goals (clear h72 h73 h84 h74 hF hFs hfs hact hb1 hbk hb2 hx hbl h hA; refine hR _ ⟨?_, ?_, ?_⟩ <;> grind)
  ·rw [decide_eq_false ht] at h72
   have hbe : balK c l car m x = 0 := by unfold balK; rw [hpk, if_neg ht]
   rw [hbe] at f1
   repeat' (first | ((with_reducible apply nrm); (· simp only [sbe]; rfl)) | ((with_reducible apply u_iteT); (· rfl); (· first | exact hli | exact rfl)) | ((with_reducible apply u_chk); (· rfl)) | ((with_reducible apply u_ld); (· rfl); (· rfl); (· exact ld_el hbk (fun _ => rfl) hF.fk); (· simp only [sbe]; rfl)) | ((with_reducible apply u_eaddr); (· rfl); (· rfl); (· exact eaddr_sl hlt2); (· simp only [sbe]; rfl)) | ((with_reducible apply u_inc); (· rfl); (· omega); (· simp only [sbe]; rfl)) | ((with_reducible apply u_ev); (· rfl); (· simp only [sbe]; rfl)) | ((with_reducible apply u_call); (· rfl); (· rfl); (· exact h72); (· rfl); (· simp only [sbe]; rfl)) | (with_reducible refine u_join ?_) | ((with_reducible apply u_jump); (· rfl); (· rfl)) | (with_reducible refine at_jump ?_) | (with_reducible refine kj rfl ?_))
   exact hR s ⟨by omega, by omega, by omega⟩
 ·obtain ⟨f1, f2, f3⟩ := hG
  simp only [List.map_nil, List.sum_nil] at f1
  rw [List.length_range]
  have hli : decide ((fs.length : Int) < (fs.length : Int)) = false := by simp
  have f1' : s = balC c l car m := by omega
  repeat' (first | ((with_reducible apply nrm); (· simp only [sbe]; rfl)) | ((with_reducible apply u_iteF); (· rfl); (· exact hli)) | ((with_reducible apply u_ev); (· rfl); (· simp only [sbe]; rfl)) | ((with_reducible apply u_jump); (· rfl); (· rfl)) | (with_reducible refine at_jump ?_) | (with_reducible refine over_jump (by decide) ?_) | (with_reducible refine kj rfl ?_) | ((with_reducible apply u_ret); (· rfl); first | exact rfl | (refine retB ?_) | (refine retI ?_) | (refine retD ?_)))
  rw [f1']

end Go.Am.Ct

/-
 Later acts change nothing.
-/
namespace Go.Am.Ct
open Go.Proofs Go.Am.Ap
set_option maxRecDepth 100000
set_option maxHeartbeats 4000000

variable {c : Cod} {l : List Akt} {a : Akt} {car m : Int}

attribute [local irreducible] inR

theorem rlast_late (h : m < a.minute) (kd k : Int) : rlast (l ++ [a]) kd k m = rlast l kd k m := by
 rw [rlast_snoc, if_neg]
 unfold isAct
 rw [decide_eq_false (by omega)]
 simp

theorem nth_rl (kd k m : Int) (h : 0 ≤ rlast l kd k m) : nth (l ++ [a]) (rlast l kd k m).toNat = nth l (rlast l kd k m).toNat := by
 have := (rlast_lt l kd k m).2
 exact nth_left (by omega)

theorem stR_late (h : m < a.minute) (k : Int) : stR c (l ++ [a]) k m = stR c l k m := by
 unfold stR
 rw [rlast_late h, rlast_late h, rlast_late h, rlast_late h]
 by_cases h3 : rlast l 3 k m < 0
 ·rw [if_pos h3, if_pos h3]
 ·rw [if_neg h3, if_neg h3, nth_rl 3 k m (by omega)]

theorem rulR_late (h : m < a.minute) (k : Int) : rulR (l ++ [a]) k m = rulR l k m := by
 unfold rulR
 rw [rlast_late h, rlast_late h]
 by_cases h5 : 0 ≤ rlast l 5 k m
 ·rw [if_pos h5, if_pos h5, nth_rl 5 k m h5]
 ·rw [if_neg h5, if_neg h5]
  by_cases h3 : 0 ≤ rlast l 3 k m
  ·rw [if_pos h3, if_pos h3, nth_rl 3 k m h3]
  ·rw [if_neg h3, if_neg h3]

theorem pro_late : (pro (l ++ [a])).length = if a.kind = 2 then (pro l).length + 1 else (pro l).length := by
 rw [pro_snoc]
 split <;> simp

theorem pk_new (h : a.kind = 2) : pk (l ++ [a]) (pro l).length = l.length := by
 unfold pk
 rw [pro_snoc, if_pos h]
 simp

theorem there_late (h : m < a.minute) {k : Nat} (hk : k < (pro l).length) : thereB (l ++ [a]) k m = thereB l k m := by
 unfold thereB
 rw [pk_left hk, nth_left (pk_lt hk), decide_eq_true (show (k : Int) < (pro l).length by omega), decide_eq_true (show (k : Int) < (pro (l ++ [a])).length by rw [pro_late]; split <;> omega)]

theorem there_new (h : m < a.minute) (h2 : a.kind = 2) : thereB (l ++ [a]) ((pro l).length : Nat) m = false := by
 refine there_no' ?_
 rw [pk_new h2, nth_last]
 omega

theorem fB_late (h : m < a.minute) {k : Nat} (hk : k < (pro l).length) : fB c (l ++ [a]) k m = fB c l k m := by
 unfold fB frB ruled
 rw [there_late h hk, stR_late h, rulR_late h]
theorem fP_late (h : m < a.minute) {k : Nat} (hk : k < (pro l).length) : fP c (l ++ [a]) k m = fP c l k m := by
 unfold fP frP ruled
 rw [there_late h hk, stR_late h, rulR_late h]
theorem st_late (h : m < a.minute) {k : Nat} (hk : k < (pro l).length) : rState c (l ++ [a]) k m = rState c l k m := by
 unfold rState
 rw [there_late h hk, stR_late h]
theorem agB_late {k : Nat} (hk : k < (pro l).length) : agB (l ++ [a]) car k = agB l car k := by
 unfold agB
 rw [pk_left hk, nth_left (pk_lt hk)]

def penK (c : Cod) (l : List Akt) (car m : Int) (k : Nat) : Int := if agB l car k = true then ctb c l m k else 0

theorem filter_sumTo (P : Nat → Bool) (f : Nat → Int) : ∀ n : Nat, (((List.range n).filter P).map f).sum = sumTo (fun k => if P k = true then f k else 0) n
 | 0 => rfl
 | n + 1 => by
  rw [sumTo_succ, ← filter_sumTo P f n, List.range_succ, List.filter_append, List.map_append, List.sum_append]
  congr 1
  cases h : P n <;> simp [List.filter_cons, h]

theorem pen_sum (c : Cod) (l : List Akt) (car m : Int) : penR c l car m = sumTo (penK c l car m) (pro l).length := filter_sumTo _ _ _

theorem pen_late (h : m < a.minute) : penR c (l ++ [a]) car m = penR c l car m := by
 rw [pen_sum, pen_sum, pro_late]
 have old : sumTo (penK c (l ++ [a]) car m) (pro l).length = sumTo (penK c l car m) (pro l).length := sumTo_congr fun k hk => by
  unfold penK ctb
  rw [agB_late hk, fB_late h hk, fP_late h hk]
 split
 ·rename_i h2
  rw [sumTo_succ, old]
  have : penK c (l ++ [a]) car m (pro l).length = 0 := by
   unfold penK ctb fB
   rw [there_new h h2]
   simp
  omega
 ·exact old

theorem any_iff (c : Cod) (l : List Akt) (car m : Int) : (agC l car).any (cpr c l m) = true ↔ ∃ k, k < (pro l).length ∧ agB l car k = true ∧ cpr c l m k = true := by
 unfold agC
 simp only [List.any_eq_true, List.mem_filter, List.mem_range]
 constructor
 ·rintro ⟨k, ⟨h1, h2⟩, h3⟩; exact ⟨k, h1, h2, h3⟩
 ·rintro ⟨k, h1, h2, h3⟩; exact ⟨k, ⟨h1, h2⟩, h3⟩

theorem prv_late (h : m < a.minute) : prvR c (l ++ [a]) car m = prvR c l car m := by
 have e1 : (agC (l ++ [a]) car).any (cpr c (l ++ [a]) m) = (agC l car).any (cpr c l m) := by
  rw [Bool.eq_iff_iff, any_iff, any_iff]
  constructor
  ·rintro ⟨k, h1, h2, h3⟩
   by_cases hk : k < (pro l).length
   ·refine ⟨k, hk, ?_, ?_⟩
    ·rwa [agB_late hk] at h2
    ·unfold cpr at h3 ⊢
     rwa [st_late h hk] at h3
   ·exfalso
    rw [pro_late] at h1
    split at h1
    ·rename_i h4
     have e : k = (pro l).length := by omega
     subst e
     unfold cpr rState at h3
     rw [there_new h h4] at h3
     simp at h3
    ·omega
  ·rintro ⟨k, h1, h2, h3⟩
   refine ⟨k, by rw [pro_late]; split <;> omega, by rwa [agB_late h1], ?_⟩
   unfold cpr at h3 ⊢
   rwa [st_late h h1]
 have e2 : pubW c m a = false := by
  unfold pubW inR
  rw [decide_eq_false (show ¬ 0 ≤ m - a.minute by omega)]
  simp
 unfold prvR
 rw [e1]
 simp [e2]

theorem bal_late (h : m < a.minute) : balC c (l ++ [a]) car m = balC c l car m := by
 unfold balC
 rw [pro_late]
 have old : sumTo (balK c (l ++ [a]) car m) (pro l).length = sumTo (balK c l car m) (pro l).length := sumTo_congr fun k hk => by
  have e1 : byN (l ++ [a]) (rlast l 4 k m) = byN l (rlast l 4 k m) := by
   unfold byN
   by_cases h4 : 0 ≤ rlast l 4 k m
   ·rw [if_pos h4, if_pos h4, nth_rl 4 k m h4]
   ·rw [if_neg h4, if_neg h4]
  have e2 : chgB (l ++ [a]) m k = chgB l m k := by
   unfold chgB
   rw [rlast_late h, rlast_late h]
   by_cases h5 : 0 ≤ rlast l 5 k m
   ·rw [nth_rl 5 k m h5]
    by_cases h3 : 0 ≤ rlast l 3 k m
    ·rw [nth_rl 3 k m h3]
    ·have : (rlast l 3 k m).toNat = 0 := by omega
     rw [this, nth_left (by have := (rlast_lt l 5 k m).2; omega)]
   ·rw [decide_eq_false h5]
    simp
  unfold balK feeB prcB
  rw [pk_left hk, nth_left (pk_lt hk), stR_late h, rulR_late h, rlast_late h, e1, e2]
 split
 ·rename_i h2
  rw [sumTo_succ, old]
  have : balK c (l ++ [a]) car m (pro l).length = 0 := by
   unfold balK
   rw [pk_new h2, nth_last, if_neg (by omega)]
  omega
 ·exact old

def upTo (m : Int) (l : List Akt) : List Akt := l.filter fun a => decide (a.minute ≤ m)

theorem upTo_snoc : upTo m (l ++ [a]) = if a.minute ≤ m then upTo m l ++ [a] else upTo m l := by
 unfold upTo
 rw [List.filter_append]
 by_cases h : a.minute ≤ m
 ·rw [if_pos h]; simp [List.filter_cons, h]
 ·rw [if_neg h]; simp [List.filter_cons, h]

theorem upTo_all (h : ∀ b, b ∈ l → b.minute ≤ m) : upTo m l = l := by
 unfold upTo
 rw [List.filter_eq_self]
 intro b hb
 simpa using h b hb

theorem past (car m : Int) : ∀ l : List Akt, Acc c l → Acc c (upTo m l) ∧ penR c (upTo m l) car m = penR c l car m ∧ prvR c (upTo m l) car m = prvR c l car m ∧ balC c (upTo m l) car m = balC c l car m := by
 refine snocInd ?_ ?_
 ·intro h
  exact ⟨h, rfl, rfl, rfl⟩
 ·intro l a ih hA
  have hI := inv_of _ hA
  by_cases h : a.minute ≤ m
  ·have e : upTo m (l ++ [a]) = l ++ [a] := by
    refine upTo_all fun b hb => ?_
    obtain ⟨i, hi, rfl⟩ := List.mem_iff_getElem.1 hb
    have := hI.sorted i l.length (by simp at hi; omega) (by simp)
    rw [nth_last, nth_get hi] at this
    omega
   rw [e]
   exact ⟨hA, rfl, rfl, rfl⟩
  ·have h' : m < a.minute := by omega
   rw [upTo_snoc, if_neg h, pen_late h', prv_late h', bal_late h']
   exact ih (acc_snoc.1 hA).1

theorem app_time (hA : Acc c l) {k : Int} (h : 0 ≤ rlast l 4 k MM) : (nth l (rlast l 4 k MM).toNat).minute - (nth l (rlast l 3 k MM).toNat).minute ≤ c.second := by
 have hI := inv_of _ hA
 obtain ⟨i, hi, hil, hk, hc⟩ := at_of h
 have g := (good_of (hA i hil)).app hk
 rw [hc] at g
 obtain ⟨j, hj, hjl, hjk, hjc⟩ := at_of g.1
 have hjl2 : j < i := by simp at hjl; omega
 have e : nth (l.take i) j = nth l j := by simp [nth, hjl2]
 rw [e] at hjk hjc
 have hu := hI.uniq j (by omega) (by omega)
 rw [hjk, hjc] at hu
 have := g.2.2.2.1
 rw [hj] at this
 rw [hi, ← hu]
 simp only [Int.toNat_natCast] at this ⊢
 rw [e] at this
 exact this

theorem prt_time (hA : Acc c l) {p : Nat} (hp : p < l.length) (h2 : (nth l p).kind = 2) : ∃ i, i < p ∧ (nth l i).kind = 1 ∧ (nth l p).minute - (nth l i).minute ≤ c.window := by
 have g := (good_of (hA p hp)).prt h2
 rcases fi_cases (isPub (nth l p).paper) (l.take p) with ⟨h, _⟩ | ⟨i, hi, h, hP, _⟩
 ·omega
 ·have hi2 : i < p := by simp at hi; omega
  have e : nth (l.take p) i = nth l i := by simp [nth, hi2]
  refine ⟨i, hi2, ?_, ?_⟩
  ·rw [← e, nth_get hi]
   unfold isPub at hP
   simp at hP
   simpa using hP.1
  ·have := g.2.2.1
   rw [h] at this
   simp only [Int.toNat_natCast] at this
   rw [e] at this
   exact this

theorem stays (hA : Acc c l) (hc : CodOk c) {later : Int} (hml : m ≤ later) (hlM : later ≤ MM) (hp : prvR c l car m = false) (hq : ∀ b, b ∈ l → m < b.minute → b.minute ≤ later → b.kind ≠ 1) : penR c l car later = penR c l car m := by
 have hI := inv_of _ hA
 have hmM : m ≤ MM := by omega
 unfold prvR at hp
 rw [Bool.or_eq_false_iff] at hp
 obtain ⟨hp1, hp2⟩ := hp
 rw [List.any_eq_false] at hp2
 rw [pen_sum, pen_sum]
 refine sumTo_congr fun k hk => ?_
 unfold penK
 split
 ·rename_i hag
  have hpl := pk_lt hk
  have hpk : (nth l (pk l k)).kind = 2 := by rw [pk_get hk]; exact pro_kind (List.getElem_mem hk)
  by_cases hm : (nth l (pk l k)).minute ≤ m
  ·have ht := there_yes' hk hm
   have ht2 := there_yes' hk (m := later) (by omega)
   have hcp : cpr c l m k = false := by
    rw [Bool.eq_false_iff]
    intro h
    have := (any_iff c l car m).2 ⟨k, hk, hag, h⟩
    rw [hp1] at this
    cases this
   unfold cpr rState at hcp
   rw [if_pos ht] at hcp
   simp only [Bool.or_eq_false_iff, beq_eq_false_iff_ne, ne_eq] at hcp
   have s := hI.shape k
   have s1 := s.dx
   have s2 := s.da
   have s3 := s.aj
   have m3 := rl_m hI (by omega : (3 : Int) ≤ 3) hmM (k := k)
   have m4 := rl_m hI (by omega : (3 : Int) ≤ 4) hmM (k := k)
   have m5 := rl_m hI (by omega : (3 : Int) ≤ 5) hmM (k := k)
   have m6 := rl_m hI (by omega : (3 : Int) ≤ 6) hmM (k := k)
   have n3 := rl_m hI (by omega : (3 : Int) ≤ 3) hlM (k := k)
   have n4 := rl_m hI (by omega : (3 : Int) ≤ 4) hlM (k := k)
   have n5 := rl_m hI (by omega : (3 : Int) ≤ 5) hlM (k := k)
   have n6 := rl_m hI (by omega : (3 : Int) ≤ 6) hlM (k := k)
   have hat := app_time hA (k := k)
   have key : stR c l k later = stR c l k m ∧ (stR c l k m = 5 → rulR l k later = rulR l k m) := by
    obtain ⟨⟨c1, c3⟩, c4⟩ := hcp
    unfold stR at c1 c3 c4 ⊢
    unfold rulR
    by_cases h6 : 0 ≤ rlast l 6 k m
    ·have e6 : rlast l 6 k later = rlast l 6 k m := by grind
     rw [e6, if_pos h6, if_pos h6]
     simp
    ·rw [if_neg h6] at c1 c3 c4 ⊢
     by_cases h5 : 0 ≤ rlast l 5 k m
     ·have e5 : rlast l 5 k later = rlast l 5 k m := by grind
      have e6 : ¬ 0 ≤ rlast l 6 k later := by grind
      rw [if_neg e6, e5, if_pos h5, if_pos h5]
      simp [h5]
     ·rw [if_neg h5] at c1 c3 c4 ⊢
      by_cases h4 : 0 ≤ rlast l 4 k m
      ·rw [if_pos h4] at c4
       exact absurd rfl c4
      ·rw [if_neg h4] at c1 c3 c4 ⊢
       by_cases h3 : rlast l 3 k m < 0
       ·rw [if_pos h3] at c1
        exact absurd rfl c1
       ·rw [if_neg h3] at c1 c3 c4 ⊢
        by_cases hs : c.second < m - (nth l (rlast l 3 k m).toNat).minute
        ·have e3 : rlast l 3 k later = rlast l 3 k m := by grind
         have e3M : rlast l 3 k m = rlast l 3 k MM := by grind
         have e6 : ¬ 0 ≤ rlast l 6 k later := by grind
         have e4M : rlast l 4 k MM < 0 := by
          rcases Int.lt_or_le (rlast l 4 k MM) 0 with h | h
          ·exact h
          ·have := hat h
           rw [← e3M] at this
           rw [if_neg (by
            intro hh
            rw [if_pos hh] at m4
            omega)] at m4
           exfalso
           have h7 : ¬ (nth l (rlast l 4 k MM).toNat).minute ≤ m := fun h8 => by
            have := (rl_m hI (by omega : (3 : Int) ≤ 4) hmM (k := k)).trans (if_pos ⟨h, h8⟩)
            omega
           omega
         have e4 : ¬ 0 ≤ rlast l 4 k later := by grind
         have e5 : ¬ 0 ≤ rlast l 5 k later := by grind
         rw [if_neg e6, if_neg e5, if_neg e4, e3, if_neg h3, if_pos (by omega), if_pos hs, if_neg e5, if_neg h5]
         exact ⟨rfl, fun _ => rfl⟩
        ·rw [if_neg hs] at c3
         exact absurd rfl c3
   obtain ⟨k1, k2⟩ := key
   unfold ctb fB fP frB frP ruled
   rw [ht, ht2, k1]
   by_cases h5 : stR c l k m = 5
   ·rw [k2 h5]
   ·rw [decide_eq_false hcp.1.2, decide_eq_false h5]
    simp
  ·have ht := there_no' (l := l) (k := k) hm
   have e1 : ctb c l m k = 0 := by unfold ctb fB; rw [ht]; simp
   rw [e1]
   by_cases hm2 : (nth l (pk l k)).minute ≤ later
   ·exfalso
    obtain ⟨i, hi, hik, hiw⟩ := prt_time hA hpl hpk
    have hso := hI.sorted i (pk l k) (by omega) hpl
    have hmem : nth l i ∈ l := by rw [nth_get (by omega)]; exact List.getElem_mem _
    by_cases him : (nth l i).minute ≤ m
    ·have := hp2 _ hmem
     apply this
     unfold pubW inR
     simp only [hik, decide_true, Bool.true_and, Bool.and_eq_true, decide_eq_true_eq]
     omega
    ·exact hq _ hmem (by omega) (by omega) hik
   ·have ht2 := there_no' (l := l) (k := k) hm2
    unfold ctb fB
    rw [ht2]
    simp
 ·rfl

end Go.Am.Ct

/-
 The court's Penalty: the walk.
-/
namespace Go.Am.Ct
open Go.Proofs Go.Am.Ap
set_option maxRecDepth 100000
set_option maxHeartbeats 4000000

variable {bs : List D} {j : Nat} {c : Cod} {l : List Akt} {a : Akt} {F : Nat → Prop}

attribute [local irreducible] inR

theorem ysto_noyl (hn : noyls bs = true) (m : Int) (p : Bool) (i : Nat) : noyls (ysto bs c m l p i) = true := by
 unfold ysto
 rw [noyls_app, hn, Bool.true_and]
 refine noyls_all fun d hd => ?_
 rcases List.mem_cons.1 hd with rfl | hd
 ·simp [D.noyl, noyls]
 ·obtain ⟨x, _, rfl⟩ := List.mem_map.1 hd
  simpa [D.noyl] using akt_noyl x

theorem c32no {sa sf : D} (h : ActsAt bs j c l sa sf) (car m : Int) (hr : penB c car m = false) : FSpecW Try.prog 32 (.st bs) [.loc j 0, I car, I m] (.tup [I 0, B false, I 2]) (.st bs) := by
 have h74 := c74 h car m
 unfold penB at hr
 rw [if_neg (by simp [hr])] at h74
 refine ku32.W rfl ?_
 unfold u32
 simp only [ups_cons, ups_nil, List.cons_append, List.nil_append]
 repeat' (first | ((with_reducible apply u_iteT); (· rfl); (· exact rfl)) | ((with_reducible apply u_ev); (· rfl); (· simp only [sbe]; rfl)) | ((with_reducible apply u_call); (· rfl); (· rfl); (· exact h74); (· rfl); (· simp only [sbe]; rfl)) | (with_reducible exact u_ret rfl rfl))

theorem c32 (hA : Acc c l) {sa sf : D} {fs : List (Int × D)} (h : Crt bs F j c l (qOf l) sa sf fs) (hn : noyls bs = true) (car m : Int) (hr : penB c car m = true) : FSpecW Try.prog 32 (.st bs) [.loc j 0, I car, I m] (.tup [I (penR c l car m), B (prvR c l car m), I 0]) (.st (ysto bs c m l ((agC l car).any (cpr c l m)) (upN l m))) := by
 have hI := inv_of l hA
 have hlen := hI.len
 have hpl : (pro l).length ≤ l.length := by unfold pro; have := prot_len l l.length; omega
 have h74 := c74 h.acts car m
 have hr' := hr
 unfold penB at hr'
 rw [if_pos hr'] at h74
 have hm : 0 ≤ m ∧ m ≤ 10000000 := by
  simp only [Bool.and_eq_true] at hr'
  have := hr'.2
  unfold inR at this
  simpa using this
 have hb : i64 m := ⟨by omega, by omega⟩
 have hmM : m ≤ MM := by unfold MM; omega
 have hbd := ctb_bd hI hmM
 have hal : (ags l car m).length ≤ 2000 := by
  have := List.length_filter_le (agP l car m) (List.range (pro l).length)
  unfold ags
  simp at this ⊢
  omega
 have h75 := c75 hA (h.more [.blk 4 1 [B false]]) car m
 refine ku32.W rfl ?_
 unfold u32
 simp only [ups_cons, ups_nil, List.cons_append, List.nil_append]
 repeat' (first | ((with_reducible apply u_iteF); (· rfl); (· exact rfl)) | ((with_reducible apply u_sto); (· rfl); (· rfl); (· rfl); (· exact sto_var (r := []) (by rfl)); (· simp only [sbe]; rfl)) | ((with_reducible apply u_lenL); (· rfl); (· exact lenL_map); (· simp only [sbe]; rfl)) | ((with_reducible apply u_ev); (· rfl); (· simp only [sbe]; rfl)) | ((with_reducible apply u_call); (· rfl); (· rfl); (· first | exact h74 | exact h75); (· rfl); (· simp only [sbe]; rfl)) | (with_reducible refine u_join ?_))
 refine u_list (ags l car m) (fun (s : Int × Bool) i => [I s.1, I i, .st (bs ++ [.blk 4 1 [B s.2]])]) (fun r s => s.1 + (r.map (ctb c l m)).sum = penR c l car m ∧ (s.2 || r.any (cpr c l m)) = (agC l car).any (cpr c l m) ∧ 0 ≤ s.1 ∧ s.1 + 36000000 * r.length ≤ 36000000 * 2000) (0, false) rfl (fun _ _ => rfl) ⟨by simp [ags_sum], by simp [ags_any], by simp, by simp; omega⟩ (fun i x s hx hlt hG R hR => ?_) (fun s hG R => ?_)
 ·obtain ⟨s1, s2⟩ := s
  obtain ⟨g1, g2, g3, g4⟩ := hG
  obtain ⟨hm1, hm2, hm3⟩ := ags_mem (List.mem_of_getElem? hx)
  obtain ⟨p, hp⟩ : ∃ p, (pro l)[x]? = some p := ⟨_, List.getElem?_eq_getElem hm1⟩
  have hX := h.more [.blk 4 1 [B s2]]
  obtain ⟨s, hF⟩ := hX.caseAt hA hp
  have hFs := hF.sl
  obtain ⟨b1, rfl, hb1⟩ := hFs.get (List.length_pos_iff.2 hF.ne)
  have hpk : pk l x = p := by unfold pk; simp [hp]
  have hth := there_yes hm1 hm2
  rw [hpk] at hm2
  have h76 := c76 hI hX.acts hp hmM hm2 hb hFs hF.lt hF.len
  have h73 := c73 hX.acts (fun a ha => by have := hI.mins a ha; unfold inR at this; simp at this; omega) hFs hF.lt hF.len p m hb
  rw [state_eq hI hp hmM hm2] at h73
  have hfd : fD fs x = .agg [I p, .sl b1 0 (idxOf l x p).length] := by unfold fD; simp [hF.fk]; rfl
  have hea : D.eaddr 2 (.lst ((ags l car m).map (fD fs))) (I i) = some (.ptr [I p, .sl b1 0 (idxOf l x p).length]) := by
   have := eaddr_lst (enc := fD fs) (sz := 2) hx (by rw [hfd]; rfl)
   rw [hfd] at this
   exact this
  simp only [List.length_cons] at g4
  simp only [List.map_cons, List.sum_cons, List.any_cons] at g1 g2
  have hct : ctb c l m x = if frB c l x m = true then frP c l x m else 0 := by unfold ctb fB fP; rw [hth]; rfl
  have hcp : cpr c l m x = (stR c l x m == 1 || stR c l x m == 3 || stR c l x m == 4) := by unfold cpr rState; rw [hth]; rfl
  have hbx := hbd x
  rw [hct] at g1 hbx
  rw [hcp] at g2
  have hli : decide ((i : Int) < ((ags l car m).length : Int)) = true := by simp; omega
  cases hfb : frB c l x m
  ·rw [hfb] at g1 hbx h76
   simp only [Bool.false_eq_true, if_false] at g1 hbx
   repeat' (first | ((with_reducible apply nrm); (· simp only [sbe]; rfl)) | ((with_reducible apply u_iteT); (· rfl); (· exact hli)) | ((with_reducible apply u_iteF); (· rfl); (· exact rfl)) | ((with_reducible apply u_chk); (· rfl)) | ((with_reducible apply u_ld); (· rfl); (· rfl); (· exact ld_var); (· simp only [sbe]; rfl)) | ((with_reducible apply u_eaddr); (· rfl); (· rfl); (· exact hea); (· simp only [sbe]; rfl)) | ((with_reducible apply u_sto); (· rfl); (· rfl); (· rfl); (· exact sto_var (r := []) (by rfl)); (· simp only [sbe]; rfl)) | ((with_reducible apply u_inc); (· rfl); (· omega); (· simp only [sbe]; rfl)) | ((with_reducible apply u_ev); (· rfl); (· simp only [sbe]; rfl)) | ((with_reducible apply u_call); (· rfl); (· rfl); (· first | exact h76 | exact h73); (· rfl); (· simp only [sbe]; rfl)) | ((with_reducible apply u_or); (· rfl)) | (with_reducible refine u_join ?_) | ((with_reducible apply u_jump); (· rfl); (· rfl)) | (with_reducible refine at_jump ?_) | (with_reducible refine kj rfl ?_) | (with_reducible exact u_ret rfl rfl) | ((with_reducible intro hz); (try simp only [sbs] at hz)))
   exact hR (s1, s2 || stR c l x m == 1 || stR c l x m == 3 || stR c l x m == 4) ⟨by simp only; omega, by simpa [Bool.or_assoc] using g2, by simp only; omega, by simp only; omega⟩
  ·rw [hfb] at g1 hbx h76
   simp only [if_true] at g1 hbx
   repeat' (first | ((with_reducible apply nrm); (· simp only [sbe]; rfl)) | ((with_reducible apply u_iteT); (· rfl); (· first | exact hli | exact rfl)) | ((with_reducible apply u_chk); (· rfl)) | ((with_reducible apply u_ld); (· rfl); (· rfl); (· exact ld_var); (· simp only [sbe]; rfl)) | ((with_reducible apply u_eaddr); (· rfl); (· rfl); (· exact hea); (· simp only [sbe]; rfl)) | ((with_reducible apply u_sto); (· rfl); (· rfl); (· rfl); (· exact sto_var (r := []) (by rfl)); (· simp only [sbe]; rfl)) | ((with_reducible apply u_inc); (· rfl); (· omega); (· simp only [sbe]; rfl)) | ((with_reducible apply u_add); (· rfl); (· rfl); (· omega); (· simp only [sbe]; rfl)) | ((with_reducible apply u_ev); (· rfl); (· simp only [sbe]; rfl)) | ((with_reducible apply u_call); (· rfl); (· rfl); (· first | exact h76 | exact h73); (· rfl); (· simp only [sbe]; rfl)) | ((with_reducible apply u_or); (· rfl)) | (with_reducible refine u_join ?_) | ((with_reducible apply u_jump); (· rfl); (· rfl)) | (with_reducible refine at_jump ?_) | (with_reducible refine kj rfl ?_) | (with_reducible exact u_ret rfl rfl) | ((with_reducible intro hz); (try simp only [sbs] at hz)))
   exact hR (s1 + frP c l x m, s2 || stR c l x m == 1 || stR c l x m == 3 || stR c l x m == 4) ⟨by simp only; omega, by simpa [Bool.or_assoc] using g2, by simp only; omega, by simp only; omega⟩
 ·obtain ⟨s1, s2⟩ := s
  obtain ⟨g1, g2, g3, g4⟩ := hG
  simp only [List.map_nil, List.sum_nil, List.any_nil, Bool.or_false] at g1 g2
  have g1' : s1 = penR c l car m := by omega
  subst g1'
  have hli : decide (((ags l car m).length : Int) < ((ags l car m).length : Int)) = false := by simp
  have h77 := c77 (bs := bs ++ [.blk 4 1 [B s2]]) (j := j) m
  have hnl : noyls ((ags l car m).map (fD fs)) = true := noyls_map fun x hx => by
   obtain ⟨hm1, hm2, hm3⟩ := ags_mem hx
   obtain ⟨s, hF⟩ := h.caseAt hA (List.getElem?_eq_getElem hm1)
   have e : fD fs x = .agg [I (pro l)[x], s] := by unfold fD; simp [hF.fk]; rfl
   rw [e]
   simp [D.noyl, noyls, hF.sl.noyl]
  have hst0 : ysto bs c m l s2 0 = bs ++ [.blk 4 1 [B s2]] := by simp [ysto]
  have hfin : D.ld false 1 (.st (ysto bs c m l s2 (upN l m))) (.loc bs.length 0) = some (B (prvR c l car m)) := by
   unfold ysto prvR
   rw [up_any hI, ← g2]
   exact ld_var
  rw [← g2]
  repeat' (first | ((with_reducible apply nrm); (· simp only [sbe]; rfl)) | ((with_reducible apply u_iteF); (· rfl); (· exact hli)) | ((with_reducible apply u_ev); (· rfl); (· simp only [sbe]; rfl)) | ((with_reducible apply u_call); (· rfl); (· rfl); (· exact h77); (· rfl); (· simp only [sbe]; rfl)) | (with_reducible refine u_join ?_) | ((with_reducible apply u_jump); (· rfl); (· rfl)) | (with_reducible refine at_jump ?_) | (with_reducible refine over_jump (by decide) ?_) | (with_reducible refine kj rfl ?_))
  refine u_rfor (.tup []) (.st (ysto bs c m l s2 (upN l m))) rfl (by kernel_rfl) rfl rfl ?_ ?_ (fun m0 rec hyl => ?_) (by simp only [sbe]; rfl) ?_
  ·simp [noyls, D.noyl, hnl, D.cells]
  ·simpa [D.noyl] using ysto_noyl hn m s2 (upN l m)
  ·have hact : ∀ i, i ≤ upN l m → ActsAt (ysto bs c m l s2 i) j c l sa sf := fun i _ => (h.more _).acts
   rw [← hst0]
   refine c101 (ysto bs c m l s2) (by omega) (upN_le l m) hact (fun i h hi => upN_low h hi) (fun h => upN_up h) (fun i hil hi => ?_)
   ·refine hyl _ _ _ (by simpa [D.noyl] using ysto_noyl hn m s2 i) (by show noyls [I i, .agg l[i].cs] = true; simp [noyls, D.noyl, akt_noyl]) rfl ?_
    obtain ⟨r, hr⟩ : ∃ r, r = (l.take i).map (fun a => D.blk 43 12 a.cs) := ⟨_, rfl⟩
    obtain ⟨pv, hpv⟩ : ∃ pv, pv = (s2 || (l.take i).any (pubC c m)) := ⟨_, rfl⟩
    have e1 : ysto bs c m l s2 i = bs ++ .blk 4 1 [B pv] :: r := by rw [hr, hpv]; rfl
    have e2 : ysto bs c m l s2 (i + 1) = bs ++ .blk 4 1 [B (pv || (l[i].kind == 1 && decide (m - l[i].minute ≤ c.window)))] :: (r ++ [.blk 43 12 l[i].cs]) := by
     unfold ysto
     rw [List.take_succ_eq_append_getElem hil, hr, hpv]
     have hpc : pubC c m l[i] = (l[i].kind == 1 && decide (m - l[i].minute ≤ c.window)) := rfl
     simp only [List.any_append, List.any_cons, List.any_nil, List.map_append, List.map_cons, List.map_nil, Bool.or_false, Bool.or_assoc, hpc]
    have hX := (h.more (.blk 4 1 [B pv] :: (r ++ [.blk 43 12 l[i].cs]))).acts
    rw [show bs ++ .blk 4 1 [B pv] :: (r ++ [.blk 43 12 l[i].cs]) = (bs ++ .blk 4 1 [B pv] :: r) ++ [.blk 43 12 l[i].cs] by simp] at hX
    have hmx := hI.mins l[i] (List.getElem_mem hil)
    unfold inR at hmx
    simp only [Bool.and_eq_true, decide_eq_true_eq] at hmx
    have hv : D.ld false 1 (.st ((bs ++ .blk 4 1 [B pv] :: r) ++ [.blk 43 12 l[i].cs])) (.loc bs.length 0) = some (B pv) := by
     rw [List.append_assoc]
     exact ld_var (r := r ++ [.blk 43 12 l[i].cs])
    have hk0 : D.ld false 1 (.st ((bs ++ .blk 4 1 [B pv] :: r) ++ [.blk 43 12 l[i].cs])) (.loc (bs ++ .blk 4 1 [B pv] :: r).length 0) = some (I l[i].kind) := ld_blk (cs := l[i].cs) (e := 43) (sz := 12) (by simp) rfl
    have hk1 : D.ld false 1 (.st ((bs ++ .blk 4 1 [B pv] :: r) ++ [.blk 43 12 l[i].cs])) (.loc (bs ++ .blk 4 1 [B pv] :: r).length 1) = some (I l[i].minute) := ld_blk (cs := l[i].cs) (e := 43) (sz := 12) (by simp) rfl
    have hw : D.ld false 1 (.st ((bs ++ .blk 4 1 [B pv] :: r) ++ [.blk 43 12 l[i].cs])) (.loc j 2) = some (I c.window) := ld_blk hX.1 rfl
    have hs1 : ∀ v : Bool, D.sto 1 (.st ((bs ++ .blk 4 1 [B pv] :: r) ++ [.blk 43 12 l[i].cs])) (.loc bs.length 0) (B v) = some (.st (bs ++ .blk 4 1 [B v] :: (r ++ [.blk 43 12 l[i].cs]))) := fun v => by
     rw [List.append_assoc]
     exact sto_var (r := r ++ [.blk 43 12 l[i].cs]) (d := B v) rfl
    rw [e1, e2]
    refine nrm (env2 := _) (by simp only [sbe]; rfl) ?_
    repeat' (first | ((with_reducible apply nrm); (· simp only [sbe]; rfl)) | ((with_reducible apply u_chk); (· rfl)) | ((with_reducible apply u_ld); (· rfl); (· rfl); (· first | exact hv | exact hk0 | exact hk1 | exact hw); (· simp only [sbe]; rfl)) | ((with_reducible apply u_sto); (· rfl); (· rfl); (· rfl); (· first | exact sto_all rfl rfl rfl | exact hs1 _); (· simp only [sbe]; rfl)) | ((with_reducible apply u_sub); (· rfl); (· rfl); (· omega); (· simp only [sbe]; rfl)) | ((with_reducible apply u_ev); (· rfl); (· simp only [sbe]; rfl)) | ((with_reducible apply u_or); (· rfl)) | ((with_reducible apply u_and); (· rfl)) | (with_reducible refine u_join ?_) | ((with_reducible apply u_jump); (· rfl); (· rfl)) | (with_reducible refine at_jump ?_) | (with_reducible refine kj rfl ?_) | (with_reducible exact u_ret rfl rfl) | ((with_reducible intro hz); (try simp only [sbs] at hz)))
    rfl
  ·repeat' (first | ((with_reducible apply nrm); (· simp only [sbe]; rfl)) | ((with_reducible apply u_ld); (· rfl); (· rfl); (· exact hfin); (· simp only [sbe]; rfl)) | ((with_reducible apply u_jump); (· rfl); (· rfl)) | (with_reducible refine at_jump ?_) | (with_reducible refine kj rfl ?_) | (with_reducible exact u_ret rfl rfl))

end Go.Am.Ct

/-
 The law on states and penalties.
-/
namespace Go.Am.Ct
open Go.Proofs Go.Am.Ap
set_option maxRecDepth 100000
set_option maxHeartbeats 4000000

variable {c : Cod} {l : List Akt}

attribute [local irreducible] inR

theorem right_pen (c : Cod) (car m : Int) : rightB c car m = penB c car m := by
 unfold rightB penB inR
 simp [Bool.and_assoc]

theorem c5 (c : Cod) (l : List Akt) (k car m : Int) (hb : i64 m) : ∃ h', FSpecWO Try.prog 5 (.st []) [c.d, Rec l, I k, I car, I m] (.ret (B true)) h' := by
 have k21 := c21 (bs := []) c
 obtain ⟨b22, k22, hb22⟩ := c22 (bs := []) l
 have k23 := c23 (bs := []) c
 have k16 := known_spec []
 cases hB : ((!(decide ((c.arts.length : Int) ≤ 20) || (decide (500 < (c.arts.length : Int)) && decide ((c.arts.length : Int) < 600)))) || (!b22)) || (!okCode c)
 rotate_left
 ·refine ⟨.st [], ku5.writeO rfl ?_⟩
  unfold u5
  simp only [ups_cons, ups_nil, List.cons_append, List.nil_append]
  repeat' (first | ((with_reducible apply nrm); (· simp only [sbe]; rfl)) | ((with_reducible apply u_iteT); (· rfl); (· exact hB)) | ((with_reducible apply u_chk); (· rfl)) | ((with_reducible apply u_ev); (· rfl); (· simp only [sbe]; rfl)) | ((with_reducible apply u_call); (· rfl); (· rfl); (· first | exact k21 | exact k22 | exact k23 | exact k16); (· rfl); (· simp only [sbe]; rfl)) | ((with_reducible apply u_or); (· rfl)) | (with_reducible exact u_ret rfl rfl) | ((with_reducible apply u_ret); (· rfl); first | exact rfl | (refine retB ?_) | (refine retI ?_) | (refine retD ?_)) | ((with_reducible intro hz); (try simp only [sbs] at hz)))
 ·have hB2 := hB
  simp only [Bool.or_eq_false_iff, Bool.not_eq_false'] at hB2
  obtain ⟨⟨_, h2⟩, h3⟩ := hB2
  obtain ⟨hl, hfa⟩ := hb22 h2
  have hc := codOk_of h3
  have hF : Fac l := fun a ha => by have := hfa a ha; omega
  have k30 := c30 (bs := []) h3 (by omega) hF
  obtain ⟨s, hs⟩ : ∃ s, s = crt (codOk_of h3) [] l := ⟨_, rfl⟩
  have hsl : s.l = rec c l := by rw [hs]; exact crt_l _ _ hF
  rw [← hs, ← hsl] at k30
  obtain ⟨sa, sf, fs, hcrt⟩ := s.crt
  have hI := inv_of _ s.acc
  have hlen := hI.len
  have k31 := c31 s.acc hc hcrt k m
  have k33 := fun bs => c33 (bs := bs) (c := c) (l := s.l) (by omega) hI.mins k m hb
  have k34 := fun bs => c34 (bs := bs) (c := c) car m
  have kk := fun bs => known_spec bs
  unfold stS stE at k31
  cases hm : inR m 0 10000000
  ·have hr : penB c car m = false := by unfold penB; rw [hm, Bool.and_false]
   have k32 := c32no hcrt.acts car m hr
   rw [hm] at k31
   simp only [if_true] at k31
   have hmf : (decide (m < 0) || decide (m > 10000000)) = true := by
    unfold inR at hm
    simp at hm ⊢
    omega
   refine ⟨.st s.bs, ku5.writeO rfl ?_⟩
   unfold u5
   simp only [ups_cons, ups_nil, List.cons_append, List.nil_append]
   repeat' (first | ((with_reducible apply nrm); (· simp only [sbe]; rfl)) | ((with_reducible apply u_iteT); (· rfl); (· exact hmf)) | ((with_reducible apply u_iteF); (· rfl); (· first | exact hB | exact rfl)) | ((with_reducible apply u_chk); (· rfl)) | ((with_reducible apply u_ev); (· rfl); (· simp only [sbe]; rfl)) | ((with_reducible apply u_call); (· rfl); (· rfl); (· first | exact k21 | exact k22 | exact k23 | exact k31 | exact kk _); (· rfl); (· simp only [sbe]; rfl)) | ((with_reducible apply u_wcall); (· rfl); (· rfl); (· first | exact k30 | exact k32); (· rfl); (· simp only [sbe]; rfl)) | ((with_reducible apply u_or); (· rfl)) | ((with_reducible apply u_and); (· rfl)) | (with_reducible exact u_ret rfl rfl) | ((with_reducible apply u_ret); (· rfl); first | exact rfl | (refine retB ?_) | (refine retI ?_) | (refine retD ?_)) | ((with_reducible intro hz); (try simp only [sbs] at hz)))
  ·rw [hm] at k31
   simp only [Bool.true_eq_false, if_false] at k31
   have hmb : 0 ≤ m ∧ m ≤ 10000000 := by unfold inR at hm; simpa using hm
   have hmf : (decide (m < 0) || decide (m > 10000000)) = false := by
    simp
    omega
   cases hr : penB c car m
   ·have k32 := c32no hcrt.acts car m hr
    rw [right_pen, hr] at k34
    refine ⟨.st s.bs, ku5.writeO rfl ?_⟩
    unfold u5
    simp only [ups_cons, ups_nil, List.cons_append, List.nil_append]
    by_cases h0 : rState c s.l k m = 0
    ·rw [h0] at k31 k33
     simp only [if_true] at k31
     repeat' (first | ((with_reducible apply nrm); (· simp only [sbe]; rfl)) | ((with_reducible apply u_iteT); (· rfl); (· exact rfl)) | ((with_reducible apply u_iteF); (· rfl); (· first | exact hB | exact hmf | exact rfl)) | ((with_reducible apply u_chk); (· rfl)) | ((with_reducible apply u_ev); (· rfl); (· simp only [sbe]; rfl)) | ((with_reducible apply u_call); (· rfl); (· rfl); (· first | exact k21 | exact k22 | exact k23 | exact k31 | exact k33 _ | exact k34 _ | exact kk _); (· rfl); (· simp only [sbe]; rfl)) | ((with_reducible apply u_wcall); (· rfl); (· rfl); (· first | exact k30 | exact k32); (· rfl); (· simp only [sbe]; rfl)) | ((with_reducible apply u_or); (· rfl)) | ((with_reducible apply u_and); (· rfl)) | (with_reducible exact u_ret rfl rfl) | ((with_reducible apply u_ret); (· rfl); first | exact rfl | (refine retB ?_) | (refine retI ?_) | (refine retD ?_)) | ((with_reducible intro hz); (try simp only [sbs] at hz)))
    ·rw [if_neg h0] at k31
     have hv : ((rState c s.l k m == 0 && ((0 : Int) != 5 || rState c s.l k m != 0)) || (rState c s.l k m != 0 && ((0 : Int) != 0 || rState c s.l k m != rState c s.l k m))) = false := by simp [h0]
     repeat' (first | ((with_reducible apply nrm); (· simp only [sbe]; rfl)) | ((with_reducible apply u_iteT); (· rfl); (· exact rfl)) | ((with_reducible apply u_iteF); (· rfl); (· first | exact hB | exact hmf | exact hv | exact rfl)) | ((with_reducible apply u_chk); (· rfl)) | ((with_reducible apply u_ev); (· rfl); (· simp only [sbe]; rfl)) | ((with_reducible apply u_call); (· rfl); (· rfl); (· first | exact k21 | exact k22 | exact k23 | exact k31 | exact k33 _ | exact k34 _ | exact kk _); (· rfl); (· simp only [sbe]; rfl)) | ((with_reducible apply u_wcall); (· rfl); (· rfl); (· first | exact k30 | exact k32); (· rfl); (· simp only [sbe]; rfl)) | ((with_reducible apply u_or); (· rfl)) | ((with_reducible apply u_and); (· rfl)) | (with_reducible exact u_ret rfl rfl) | ((with_reducible apply u_ret); (· rfl); first | exact rfl | (refine retB ?_) | (refine retI ?_) | (refine retD ?_)) | ((with_reducible intro hz); (try simp only [sbs] at hz)))
   ·have k32 := c32 s.acc hcrt s.ny car m hr
    rw [right_pen, hr] at k34
    have k35 := fun bs => c35 (bs := bs) hI car m hmb.1 (by unfold MM; omega)
    obtain ⟨Y, hY⟩ : ∃ Y, Y = ysto s.bs c m s.l ((agC s.l car).any (cpr c s.l m)) (upN s.l m) := ⟨_, rfl⟩
    rw [← hY] at k32
    refine ⟨.st Y, ku5.writeO rfl ?_⟩
    ·unfold u5
     simp only [ups_cons, ups_nil, List.cons_append, List.nil_append]
     by_cases h0 : rState c s.l k m = 0
     ·rw [h0] at k31 k33
      simp only [if_true] at k31
      repeat' (first | ((with_reducible apply nrm); (· simp only [sbe]; rfl)) | ((with_reducible apply u_iteF); (· rfl); (· first | exact hB | exact hmf | exact rfl)) | ((with_reducible apply u_chk); (· rfl)) | ((with_reducible apply u_ev); (· rfl); (· simp only [sbe]; rfl)) | ((with_reducible apply u_call); (· rfl); (· rfl); (· first | exact k21 | exact k22 | exact k23 | exact k31 | exact k33 _ | exact k34 _ | exact k35 _ | exact kk _); (· rfl); (· simp only [sbe]; rfl)) | ((with_reducible apply u_wcall); (· rfl); (· rfl); (· first | exact k30 | exact k32); (· rfl); (· simp only [sbe]; rfl)) | ((with_reducible apply u_or); (· rfl)) | ((with_reducible apply u_and); (· rfl)) | (with_reducible exact u_ret rfl rfl) | ((with_reducible apply u_ret); (· rfl); first | exact rfl | (refine retB ?_) | (refine retI ?_) | (refine retD ?_)) | ((with_reducible intro hz); (try simp only [sbs] at hz)))
      simp
     ·rw [if_neg h0] at k31
      have hv : ((rState c s.l k m == 0 && ((0 : Int) != 5 || rState c s.l k m != 0)) || (rState c s.l k m != 0 && ((0 : Int) != 0 || rState c s.l k m != rState c s.l k m))) = false := by simp [h0]
      repeat' (first | ((with_reducible apply nrm); (· simp only [sbe]; rfl)) | ((with_reducible apply u_iteF); (· rfl); (· first | exact hB | exact hmf | exact hv | exact rfl)) | ((with_reducible apply u_chk); (· rfl)) | ((with_reducible apply u_ev); (· rfl); (· simp only [sbe]; rfl)) | ((with_reducible apply u_call); (· rfl); (· rfl); (· first | exact k21 | exact k22 | exact k23 | exact k31 | exact k33 _ | exact k34 _ | exact k35 _ | exact kk _); (· rfl); (· simp only [sbe]; rfl)) | ((with_reducible apply u_wcall); (· rfl); (· rfl); (· first | exact k30 | exact k32); (· rfl); (· simp only [sbe]; rfl)) | ((with_reducible apply u_or); (· rfl)) | ((with_reducible apply u_and); (· rfl)) | (with_reducible exact u_ret rfl rfl) | ((with_reducible apply u_ret); (· rfl); first | exact rfl | (refine retB ?_) | (refine retI ?_) | (refine retD ?_)) | ((with_reducible intro hz); (try simp only [sbs] at hz)))
      simp

end Go.Am.Ct

/-
 The law on records that are replayed.
-/
namespace Go.Am.Ct
open Go.Proofs Go.Am.Ap
set_option maxRecDepth 100000
set_option maxHeartbeats 4000000

variable {bs : List D} {c : Cod} {l : List Akt}

attribute [local irreducible] inR

end Go.Am.Ct

/-
 The law of the past.
-/
namespace Go.Am.Ct
open Go.Proofs Go.Am.Ap
set_option maxRecDepth 100000
set_option maxHeartbeats 4000000

variable {c : Cod} {l : List Akt} {bs : List D}

attribute [local irreducible] inR

def quietB (m later : Int) (l : List Akt) : Bool := l.all fun a => decide (a.minute ≤ m) || !(a.kind == 1 && decide (a.minute ≤ later))

theorem quiet_of {m later : Int} (h : quietB m later l = true) : ∀ b, b ∈ l → m < b.minute → b.minute ≤ later → b.kind ≠ 1 := by
 unfold quietB at h
 rw [List.all_eq_true] at h
 intro b hb h1 h2 h3
 have := h b hb
 simp [h3, h2] at this
 omega

theorem court_stay (hc : CodOk c) {bs : List D} (hn : noyls bs = true) {F : Nat → Prop} {j : Nat} {l : List Akt} (h : Court bs F j c l) (r : List Akt) (hF : Fac r) : Court (crt hc bs r).bs F j c l := by
 obtain ⟨sa, sf, fs, h⟩ := h
 have hst := CS.run_stp hc (CS.new bs c) r hF
 have hb : (CS.new bs c).bs = bs ++ [.blk 99 9 (crtCells c .snil .snil)] := by
  refine kill_self ?_
  rw [noyls_app, hn]
  have := crtCells_noyl (c := c) (sa := .snil) (sf := .snil) rfl rfl
  simp [noyls, D.noyl, this]
 refine ⟨sa, sf, fs, h.keep ?_ fun k hk => ?_⟩
 ·have := hst.len
  rw [hb] at this
  simp at this
  exact Nat.le_of_lt this
 ·have hlt := h.lt k hk
  have := hst.old k (by rw [hb]; simp; omega) (by show ¬ k = bs.length; omega)
  refine this.trans ?_
  rw [hb, List.getElem?_append_left hlt]

theorem court_ysto {F : Nat → Prop} {j : Nat} (h : Court bs F j c l) (c' : Cod) (m : Int) (l' : List Akt) (p : Bool) (i : Nat) : Court (ysto bs c' m l' p i) F j c l := by
 obtain ⟨sa, sf, fs, h⟩ := h
 refine ⟨sa, sf, fs, h.keep (by unfold ysto; simp) fun k hk => ?_⟩
 unfold ysto
 rw [List.getElem?_append_left (h.lt k hk)]

theorem c12 (c : Cod) (l : List Akt) (car m later : Int) : ∃ h', FSpecWO Try.prog 12 (.st []) [c.d, Rec l, I car, I m, I later] (.ret (B true)) h' := by
 have k21 := c21 (bs := []) c
 obtain ⟨b22, k22, hb22⟩ := c22 (bs := []) l
 have k23 := c23 (bs := []) c
 have k16 := known_spec []
 have k34 := c34 (bs := []) (c := c) car m
 have k34' := c34 (bs := []) (c := c) car later
 cases hB : (((((!(decide ((c.arts.length : Int) ≤ 20) || (decide (500 < (c.arts.length : Int)) && decide ((c.arts.length : Int) < 600)))) || (!b22)) || (!okCode c)) || (!rightB c car m)) || (!rightB c car later)) || decide (later < m)
 rotate_left
 ·refine ⟨.st [], ku12.writeO rfl ?_⟩
  unfold u12
  simp only [ups_cons, ups_nil, List.cons_append, List.nil_append]
  repeat' (first | ((with_reducible apply nrm); (· simp only [sbe]; rfl)) | ((with_reducible apply u_iteT); (· rfl); (· exact hB)) | ((with_reducible apply u_chk); (· rfl)) | ((with_reducible apply u_ev); (· rfl); (· simp only [sbe]; rfl)) | ((with_reducible apply u_call); (· rfl); (· rfl); (· first | exact k21 | exact k22 | exact k23 | exact k34 | exact k34' | exact k16); (· rfl); (· simp only [sbe]; rfl)) | ((with_reducible apply u_or); (· rfl)) | (with_reducible exact u_ret rfl rfl) | ((with_reducible apply u_ret); (· rfl); first | exact rfl | (refine retB ?_) | (refine retI ?_) | (refine retD ?_)) | ((with_reducible intro hz); (try simp only [sbs] at hz)))
 ·have hB2 := hB
  simp only [Bool.or_eq_false_iff, Bool.not_eq_false', decide_eq_false_iff_not] at hB2
  obtain ⟨⟨⟨⟨⟨_, h2⟩, h3⟩, hr⟩, hr'⟩, hml⟩ := hB2
  rw [right_pen] at hr hr'
  obtain ⟨hl, hfa⟩ := hb22 h2
  have hc := codOk_of h3
  have hF : Fac l := fun a ha => by have := hfa a ha; omega
  have k30 := c30 (bs := []) h3 (by omega) hF
  obtain ⟨s, hs⟩ : ∃ s, s = crt (codOk_of h3) [] l := ⟨_, rfl⟩
  have hsl : s.l = rec c l := by rw [hs]; exact crt_l _ _ hF
  rw [← hs, ← hsl] at k30
  have hI := inv_of _ s.acc
  have hlen := hI.len
  have kk := fun bs => known_spec bs
  have hmb : 0 ≤ later ∧ later ≤ MM := by
   unfold penB at hr'
   unfold MM
   simp only [Bool.and_eq_true] at hr'
   have := hr'.2
   unfold inR at this
   simpa using this
  obtain ⟨p1, p2, p3, p4⟩ := past (c := c) (m := m) car s.l s.acc
  have hbF : Fac (upTo m s.l) := fun a ha => s.fac a (List.mem_filter.1 ha).1
  have hbl : (upTo m s.l).length ≤ s.l.length := List.length_filter_le _ _
  have k42 := c42y (bs := s.bs) h3 (by omega) hbF p1
  obtain ⟨t, ht⟩ : ∃ t, t = crt (codOk_of h3) s.bs (upTo m s.l) := ⟨_, rfl⟩
  have htl : t.l = upTo m s.l := by rw [ht, crt_l _ _ hbF]; exact rec_acc _ p1
  have hX1 : Court t.bs s.F ([] : List D).length c s.l := by rw [ht]; exact court_stay (codOk_of h3) s.ny s.crt _ hbF
  rw [← ht] at k42
  obtain ⟨_, _, _, X1⟩ := hX1
  have k32a := c32 s.acc X1 t.ny car m hr
  obtain ⟨Y1, hY1⟩ : ∃ Y, Y = ysto t.bs c m s.l ((agC s.l car).any (cpr c s.l m)) (upN s.l m) := ⟨_, rfl⟩
  rw [← hY1] at k32a
  have n1 : noyls Y1 = true := by rw [hY1]; exact ysto_noyl t.ny _ _ _
  have hT1 : Court Y1 t.F s.bs.length c t.l := by rw [hY1]; exact court_ysto t.crt _ _ _ _ _
  have hX1' : Court Y1 s.F ([] : List D).length c s.l := by rw [hY1]; exact court_ysto ⟨_, _, _, X1⟩ _ _ _ _ _
  obtain ⟨_, _, _, T1⟩ := hT1
  have k32b := c32 t.acc T1 n1 car m hr
  obtain ⟨Y2, hY2⟩ : ∃ Y, Y = ysto Y1 c m t.l ((agC t.l car).any (cpr c t.l m)) (upN t.l m) := ⟨_, rfl⟩
  rw [← hY2] at k32b
  have n2 : noyls Y2 = true := by rw [hY2]; exact ysto_noyl n1 _ _ _
  have hX2 : Court Y2 s.F ([] : List D).length c s.l := by rw [hY2]; exact court_ysto hX1' _ _ _ _ _
  have hT2 : Court Y2 t.F s.bs.length c t.l := by rw [hY2]; exact court_ysto ⟨_, _, _, T1⟩ _ _ _ _ _
  obtain ⟨_, _, _, X2⟩ := hX2
  obtain ⟨_, _, _, T2⟩ := hT2
  have k45a := c45 s.acc hc X2 car m hr
  have k45b := c45 t.acc hc T2 car m hr
  have k32c := c32 s.acc X2 n2 car later hr'
  obtain ⟨Y3, hY3⟩ : ∃ Y, Y = ysto Y2 c later s.l ((agC s.l car).any (cpr c s.l later)) (upN s.l later) := ⟨_, rfl⟩
  rw [← hY3] at k32c
  rw [htl, p2, p3] at k32b
  rw [htl, p4] at k45b
  have fin : (prvR c s.l car m || !quietB m later s.l || penR c s.l car later == penR c s.l car m) = true := by
   cases hp : prvR c s.l car m
   ·cases hq : quietB m later s.l
    ·simp
    ·rw [stays s.acc hc (by omega) hmb.2 hp (quiet_of hq)]
     simp
   ·simp
  refine ⟨.st Y3, ku12.writeO rfl ?_⟩
  unfold u12
  simp only [ups_cons, ups_nil, List.cons_append, List.nil_append]
  repeat' (first | ((with_reducible apply nrm); (· simp only [sbe]; rfl)) | ((with_reducible apply u_iteF); (· rfl); (· first | exact hB | exact rfl)) | ((with_reducible apply u_chk); (· rfl)) | ((with_reducible apply u_ev); (· rfl); (· simp only [sbe]; rfl)) | ((with_reducible apply u_call); (· rfl); (· rfl); (· first | exact k21 | exact k22 | exact k23 | exact k34 | exact k34'); (· rfl); (· simp only [sbe]; rfl)) | ((with_reducible apply u_wcall); (· rfl); (· rfl); (· exact k30); (· rfl); (· simp only [sbe]; rfl)) | ((with_reducible apply u_or); (· rfl)) | (with_reducible refine u_join ?_) | (with_reducible exact u_ret rfl rfl) | ((with_reducible intro hz); (try simp only [sbs] at hz)))
  refine u_list s.l (fun (st : List Akt × Bool) i => [Rec st.1, B st.2, I i]) (fun r st => st.1 ++ upTo m r = upTo m s.l ∧ (st.2 && quietB m later r) = quietB m later s.l ∧ st.1.length + r.length ≤ s.l.length) ([], true) rfl (fun _ _ => rfl) ⟨rfl, rfl, by simp⟩ (fun i x st hx hlt hG R hR => ?_) (fun st hG R => ?_)
  ·obtain ⟨b, q⟩ := st
   obtain ⟨_, rfl⟩ := List.getElem?_eq_some_iff.1 hx
   obtain ⟨g1, g2, g3⟩ := hG
   simp only [List.length_cons] at g3
   have hac : b.length + 1 ≤ 1000000 := by omega
   have ha1 := app1_lst (xs := b) (enc := Akt.d) (a := s.l[i]) (sz := 12) (bytes := 112) (by omega) (by unfold maxLen; omega) (fun _ => rfl)
   have hli : decide ((i : Int) < (s.l.length : Int)) = true := by simp; omega
   by_cases hm1 : s.l[i].minute ≤ m
   ·have e1 : decide (s.l[i].minute ≤ m) = true := decide_eq_true hm1
    repeat' (first | ((with_reducible apply nrm); (· simp only [sbe]; rfl)) | ((with_reducible apply u_iteT); (· rfl); (· first | exact hli | exact e1)) | ((with_reducible apply u_chk); (· rfl)) | ((with_reducible apply u_eaddr); (· rfl); (· rfl); (· exact eaddr_get hlt rfl); (· simp only [sbe]; rfl)) | ((with_reducible apply u_app); (· rfl); (· rfl); (· exact ha1); (· simp only [sbe]; rfl)) | ((with_reducible apply u_lenL); (· rfl); (· exact lenL_map); (· simp only [sbe]; rfl)) | ((with_reducible apply u_inc); (· rfl); (· omega); (· simp only [sbe]; rfl)) | ((with_reducible apply u_ev); (· rfl); (· simp only [sbe]; rfl)) | (with_reducible refine u_join ?_) | ((with_reducible apply u_jump); (· rfl); (· rfl)) | (with_reducible refine at_jump ?_) | (with_reducible refine kj rfl ?_))
    refine hR (b ++ [s.l[i]], q) ⟨?_, ?_, by rw [List.length_append, List.length_cons, List.length_nil]; omega⟩
    ·rw [← g1]; unfold upTo; rw [List.filter_cons, if_pos (by simpa using hm1), List.append_assoc]; rfl
    ·rw [← g2]; unfold quietB; rw [List.all_cons, e1, Bool.true_or, Bool.true_and]
   ·have e1 : decide (s.l[i].minute ≤ m) = false := decide_eq_false hm1
    have eu : upTo m (s.l[i] :: s.l.drop (i + 1)) = upTo m (s.l.drop (i + 1)) := by unfold upTo; rw [List.filter_cons, if_neg (by simpa using hm1)]
    rw [eu] at g1
    repeat' (first | ((with_reducible apply nrm); (· simp only [sbe]; rfl)) | ((with_reducible apply u_iteT); (· rfl); (· exact hli)) | ((with_reducible apply u_iteF); (· rfl); (· exact e1)) | ((with_reducible apply u_chk); (· rfl)) | ((with_reducible apply u_eaddr); (· rfl); (· rfl); (· exact eaddr_get hlt rfl); (· simp only [sbe]; rfl)) | ((with_reducible apply u_lenL); (· rfl); (· exact lenL_map); (· simp only [sbe]; rfl)) | ((with_reducible apply u_inc); (· rfl); (· omega); (· simp only [sbe]; rfl)) | ((with_reducible apply u_ev); (· rfl); (· simp only [sbe]; rfl)) | ((with_reducible apply u_and); (· rfl)) | (with_reducible refine u_join ?_) | ((with_reducible apply u_jump); (· rfl); (· rfl)) | (with_reducible refine at_jump ?_) | (with_reducible refine kj rfl ?_) | ((with_reducible apply u_phi); (· rfl); (· intro hz; rfl); (· intro hz; rfl); (· rfl); (· simp only [sbe, List.zipWith_cons_cons, List.zipWith_nil_left, selD]; rfl)) | (with_reducible exact u_ret rfl rfl) | ((with_reducible intro hz); (try simp only [sbs] at hz)))
    refine hR (b, _) ⟨g1, ?_, by show b.length + _ ≤ _; omega⟩
    rw [← g2]
    unfold quietB
    simp only [List.all_cons, e1, Bool.false_or]
    cases hk : s.l[i].kind == 1 && decide (s.l[i].minute ≤ later) <;> simp
  ·obtain ⟨b, q⟩ := st
   obtain ⟨g1, g2, g3⟩ := hG
   have e1 : b = upTo m s.l := by rw [← g1]; simp [upTo]
   have e2 : q = quietB m later s.l := by rw [← g2]; simp [quietB]
   subst e1 e2
   have hli : decide ((s.l.length : Int) < (s.l.length : Int)) = false := by simp
   repeat' (first | ((with_reducible apply nrm); (· simp only [sbe]; rfl)) | ((with_reducible apply u_iteF); (· rfl); (· first | exact hli | exact rfl)) | ((with_reducible apply u_chk); (· rfl)) | ((with_reducible apply u_lenL); (· rfl); (· exact lenL_map); (· simp only [sbe]; rfl)) | ((with_reducible apply u_ev); (· rfl); (· simp only [sbe]; rfl)) | ((with_reducible apply u_call); (· rfl); (· rfl); (· first | exact kk _ | exact k45a | exact k45b); (· rfl); (· simp only [sbe]; rfl)) | ((with_reducible apply u_wcall); (· rfl); (· rfl); (· first | exact k42 | exact k32a | exact k32b | exact k32c); (· rfl); (· simp only [sbe]; rfl)) | ((with_reducible apply u_or); (· rfl)) | ((with_reducible apply u_and); (· rfl)) | ((with_reducible apply u_jump); (· rfl); (· rfl)) | (with_reducible refine at_jump ?_) | (with_reducible refine over_jump (by decide) ?_) | (with_reducible refine kj rfl ?_) | (with_reducible exact u_ret rfl rfl) | ((with_reducible apply u_ret); (· rfl); first | exact rfl | (refine retB ?_) | (refine retI ?_) | (refine retD ?_)) | ((with_reducible intro hz); (try simp only [sbs] at hz)))
   all_goals first
    | (simp at fin ⊢; grind)
    | skip

end Go.Am.Ct

/-
 Arguments of laws.
-/
namespace Go.Am.Ct
open Go.Am.Ap

theorem argInt {x : D} (h : ArgSh (.int .i64) x) : ∃ n, x = I n ∧ Ap.i64 n := by
 obtain ⟨n, hn, hb⟩ := ofI (h.2 rfl)
 cases hn
 exact ⟨n, rfl, hb⟩

def ActsOk (l : List Akt) : Prop := (∀ a, a ∈ l → a.Ok) ∧ l.length ≤ maxLen

theorem ofActs : ∀ {es : List D}, (∀ x, x ∈ es → ∃ cs, x = .agg cs ∧ OfSh shAct cs) → ∃ xs : List Akt, es = xs.map Akt.d ∧ ∀ a, a ∈ xs → a.Ok
 | [], _ => ⟨[], rfl, by simp⟩
 | e :: es, h => by
  obtain ⟨cs, rfl, h1⟩ := h e (by simp)
  obtain ⟨a, ha, ho⟩ := ofAct h1
  obtain ⟨xs, rfl, hx⟩ := ofActs (es := es) fun x hx => h x (by simp [hx])
  exact ⟨a :: xs, by rw [ha]; rfl, by simpa using ⟨ho, hx⟩⟩

theorem argActs {x : D} (h : ArgSh (.sl shAct) x) : ∃ l : List Akt, x = Rec l ∧ ActsOk l := by
 have h := h.2 rfl
 simp only [OfSh] at h
 obtain ⟨es, hx, hl, hes⟩ := h
 cases hx
 obtain ⟨xs, rfl, ho⟩ := ofActs fun x hx => (hes x hx).1 rfl
 exact ⟨xs, rfl, ho, by simpa using hl⟩

theorem ofArt {cs : List D} (h : OfSh shArt cs) : ∃ a : Art, .agg cs = a.d ∧ a.Ok := by
 simp only [shArt, OfSh, OfAll] at h
 have cv : ∀ {ds : List D}, (∃ n : Int, ds = [.v (.int .i64 n)] ∧ IntKind.i64.min ≤ n ∧ n ≤ IntKind.i64.max) → ∃ n, ds = [I n] ∧ Ap.i64 n := fun h => ofI (by simpa only [OfSh] using h)
 obtain ⟨_, _, rfl, h1, _, _, rfl, h2, _, _, rfl, h3, _, _, rfl, h4, rfl⟩ := h
 obtain ⟨n, rfl, b1⟩ := cv h1
 obtain ⟨f, rfl, b2⟩ := cv h2
 obtain ⟨l, rfl, b3⟩ := cv h3
 obtain ⟨m, rfl, b4⟩ := cv h4
 exact ⟨⟨n, f, l, m⟩, rfl, b1, b2, b3, b4⟩

theorem ofArts : ∀ {es : List D}, (∀ x, x ∈ es → ∃ cs, x = .agg cs ∧ OfSh shArt cs) → ∃ xs : List Art, es = xs.map Art.d ∧ ∀ a, a ∈ xs → a.Ok
 | [], _ => ⟨[], rfl, by simp⟩
 | e :: es, h => by
  obtain ⟨cs, rfl, h1⟩ := h e (by simp)
  obtain ⟨a, ha, ho⟩ := ofArt h1
  obtain ⟨xs, rfl, hx⟩ := ofArts (es := es) fun x hx => h x (by simp [hx])
  exact ⟨a :: xs, by rw [ha]; rfl, by simpa using ⟨ho, hx⟩⟩

theorem argCode {x : D} (h : ArgSh shCode x) : ∃ c : Cod, x = c.d ∧ c.Ok := by
 obtain ⟨cs, rfl, hh⟩ := h.1 rfl
 simp only [shCode, OfSh, OfAll] at hh
 have cv : ∀ {ds : List D}, (∃ n : Int, ds = [.v (.int .i64 n)] ∧ IntKind.i64.min ≤ n ∧ n ≤ IntKind.i64.max) → ∃ n, ds = [I n] ∧ Ap.i64 n := fun h => ofI (by simpa only [OfSh] using h)
 obtain ⟨_, _, rfl, h1, _, _, rfl, ⟨es, rfl, hl, hes⟩, _, _, rfl, h3, _, _, rfl, h4, _, _, rfl, h5, _, _, rfl, h6, rfl⟩ := hh
 obtain ⟨a, rfl, b1⟩ := cv h1
 obtain ⟨w, rfl, b3⟩ := cv h3
 obtain ⟨s, rfl, b4⟩ := cv h4
 obtain ⟨f, rfl, b5⟩ := cv h5
 obtain ⟨p, rfl, b6⟩ := cv h6
 obtain ⟨xs, rfl, hx⟩ := ofArts fun x hx => (hes x hx).1 rfl
 exact ⟨⟨a, xs, w, s, f, p⟩, rfl, b1, b3, b4, b5, b6, hx, by simpa using hl⟩

end Go.Am.Ct
