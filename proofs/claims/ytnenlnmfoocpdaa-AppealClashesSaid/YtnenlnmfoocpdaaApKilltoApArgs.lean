/-
  Several texts, one behind the other.
-/
import Derived.Test.YtnenlnmfoocpdaaApDo
import Derived.Test.YtnenlnmfoocpdaaAmKill
import Derived.Test.YtnenlnmfoocpdaaApU3toApCourt5
set_option linter.unusedSimpArgs false
set_option linter.unusedVariables false
/-
 A court's blocks hold no loop's round.
-/
namespace Go.Am.Ct
open Go.Proofs Go.Am.Ap

variable {bs : List D} {j : Nat} {c : Cod} {l : List Akt} {a : Akt} {F : Nat → Prop}

theorem noyls_app : ∀ {a b : List D}, noyls (a ++ b) = (noyls a && noyls b)
 | [], b => by simp [noyls]
 | x :: r, b => by simp [noyls, noyls_app (a := r), Bool.and_assoc]

theorem noyls_all : ∀ {ds : List D}, (∀ d, d ∈ ds → d.noyl = true) → noyls ds = true
 | [], _ => by simp [noyls]
 | x :: r, h => by simp [noyls, h x (by simp), noyls_all (ds := r) fun d hd => h d (by simp [hd])]

theorem noyls_map {α : Type} {f : α → D} {xs : List α} (h : ∀ x, x ∈ xs → (f x).noyl = true) : noyls (xs.map f) = true :=
 noyls_all fun d hd => by
  obtain ⟨x, hx, rfl⟩ := List.mem_map.1 hd
  exact h x hx

theorem noyls_flat {α : Type} {f : α → List D} {xs : List α} (h : ∀ x, x ∈ xs → noyls (f x) = true) : noyls (xs.flatMap f) = true := by
 induction xs with
 | nil => simp [noyls]
 | cons x r ih => rw [List.flatMap_cons, noyls_app, h x (by simp), ih fun y hy => h y (by simp [hy])]; rfl

theorem akt_noyl (a : Akt) : noyls a.cs = true := by
 simp [Akt.cs, noyls, D.noyl]
 exact noyls_map fun x _ => rfl

theorem _root_.Go.Am.SlOf.noyl {α : Type} {e : TypeId} {sz : Nat} {enc : α → List D} {s : D} {xs : List α} (h : SlOf bs e sz enc s xs) : s.noyl = true := by
 rcases h with ⟨_, rfl⟩ | ⟨i, rfl, _⟩ <;> rfl

theorem _root_.Go.Am.SlOf.kill {α : Type} {e : TypeId} {sz : Nat} {enc : α → List D} {s : D} {xs : List α} (h : SlOf bs e sz enc s xs) (hn : ∀ x, x ∈ xs → noyls (enc x) = true) : SlOf (kill bs) e sz enc s xs := by
 rcases h with h | ⟨i, rfl, h⟩
 ·exact .inl h
 ·exact .inr ⟨i, rfl, kill_get h (by simpa [D.noyl] using noyls_flat hn)⟩

theorem crtCells_noyl {sa sf : D} (ha : sa.noyl = true) (hf : sf.noyl = true) : noyls (crtCells c sa sf) = true := by
 have : noyls (c.arts.map Art.d) = true := noyls_map fun x _ => by simp [Art.d, D.noyl, noyls]
 simp [crtCells, noyls, D.noyl, ha, hf, this]

theorem ActsAt.kill {sa sf : D} (h : ActsAt bs j c l sa sf) (hf : sf.noyl = true) : ActsAt (kill bs) j c l sa sf :=
 ⟨kill_get h.1 (by simpa [D.noyl] using crtCells_noyl h.2.noyl hf), h.2.kill fun x _ => akt_noyl x⟩

theorem Crt.kill {q : List (Nat × List Nat)} {sa sf : D} {fs : List (Int × D)} (h : Crt bs F j c l q sa sf fs) : Crt (kill bs) F j c l q sa sf fs where
 acts := h.acts.kill h.files.noyl
 files := h.files.kill fun f hf => by
  obtain ⟨k, hk, rfl⟩ := List.mem_iff_getElem.1 hf
  have hkq : k < q.length := by have := h.len; omega
  obtain ⟨s, h1, h2⟩ := h.case k q[k].1 q[k].2 (List.getElem?_eq_getElem hkq)
  rw [List.getElem?_eq_getElem hk, Option.some.injEq] at h1
  rw [h1]
  simp [fcs, noyls, D.noyl, h2.noyl]
 len := h.len
 case := fun k p idx hq => by
  obtain ⟨s, h1, h2⟩ := h.case k p idx hq
  exact ⟨s, h1, h2.kill fun x _ => by simp [ncs, noyls, D.noyl]⟩
 inj := h.inj
 fj := h.fj
 fa := h.fa
 ff := h.ff
 fc := h.fc
 lt := fun k hk => by rw [kill_len]; exact h.lt k hk

theorem Court.kill (h : Court bs F j c l) : Court (kill bs) F j c l := by
 obtain ⟨sa, sf, fs, h⟩ := h
 exact ⟨sa, sf, fs, h.kill⟩

theorem stp_kill {bs' : List D} {F' : Nat → Prop} (hn : noyls bs = true) (h : Stp bs F bs' F') : Stp bs F (Go.Am.kill bs') F' where
 len := by rw [kill_len]; exact h.len
 old := fun k hk hf => by
  have h1 := h.old k hk hf
  rw [List.getElem?_eq_getElem hk] at h1 ⊢
  exact kill_get h1 (noyls_get hn (List.getElem?_eq_getElem hk))
 new := h.new

end Go.Am.Ct

/-
 What the laws on courts share; the law on acts.
-/
namespace Go.Am.Ct
open Go.Proofs Go.Am.Ap
set_option maxRecDepth 100000
set_option maxHeartbeats 4000000

variable {bs : List D} {j : Nat} {c : Cod} {l : List Akt} {a : Akt} {F : Nat → Prop}

attribute [local irreducible] inR

def Fac (l : List Akt) : Prop := ∀ a, a ∈ l → a.facts.length ≤ 1000000

theorem c22 (l : List Akt) : ∃ b, FSpecR Try.prog 22 (.st bs) [Rec l, I 25] (B b) ∧ (b = true → l.length ≤ 25 ∧ ∀ a, a ∈ l → a.facts.length ≤ 25) := by
 by_cases hh : ∀ i (h : i < l.length), i ≤ 25 → l[i].facts.length ≤ 25
 ·refine ⟨decide ((l.length : Int) ≤ 25), ?_, fun h => ?_⟩
  ·refine ku22.R rfl rfl ?_
   unfold u22
   simp only [ups_cons, ups_nil, List.cons_append, List.nil_append]
   repeat' ((with_reducible refine u_join ?_))
   refine u_list l (fun (_ : Unit) i => [I i]) (fun _ _ => True) () rfl (fun _ _ => rfl) trivial (fun i x _ hx hlt _ R hR => ?_) (fun _ _ R => ?_)
   ·have hxi := hh i hlt
    obtain ⟨_, rfl⟩ := List.getElem?_eq_some_iff.1 hx
    repeat' (first | ((with_reducible apply nrm); (· simp only [sbe]; rfl)) | ((with_reducible apply u_chk); (· rfl)) | ((with_reducible apply u_eaddr); (· rfl); (· rfl); (· exact eaddr_get hlt rfl); (· simp only [sbe]; rfl)) | ((with_reducible apply u_lenL); (· rfl); (· exact lenL_map); (· simp only [sbe]; rfl)) | ((with_reducible apply u_inc); (· rfl); (· omega); (· simp only [sbe]; rfl)) | ((with_reducible apply u_ev); (· rfl); (· simp only [sbe]; rfl)) | ((with_reducible apply u_and); (· rfl)) | (with_reducible refine u_join ?_) | ((with_reducible apply u_jump); (· rfl); (· rfl)) | (with_reducible refine at_jump ?_) | (with_reducible refine over_jump (by decide) ?_) | (with_reducible refine kj rfl ?_) | ((with_reducible apply u_ite); (· rfl); all_goals (intro hz; (try simp only [sbs] at hz); first | (exact absurd hz (by decide)) | (exfalso; omega) | skip)) | (with_reducible exact u_ret rfl rfl) | ((with_reducible intro hz); (try simp only [sbs] at hz)))
    exact hR () trivial
   ·repeat' (first | ((with_reducible apply nrm); (· simp only [sbe]; rfl)) | ((with_reducible apply u_lenL); (· rfl); (· exact lenL_map); (· simp only [sbe]; rfl)) | ((with_reducible apply u_ev); (· rfl); (· simp only [sbe]; rfl)) | ((with_reducible apply u_and); (· rfl)) | ((with_reducible apply u_jump); (· rfl); (· rfl)) | (with_reducible refine at_jump ?_) | (with_reducible refine over_jump (by decide) ?_) | (with_reducible refine kj rfl ?_) | ((with_reducible apply u_ite); (· rfl); all_goals (intro hz; (try simp only [sbs] at hz); first | (exact absurd hz (by decide)) | (exfalso; omega) | skip)) | (with_reducible exact u_ret rfl rfl) | ((with_reducible intro hz); (try simp only [sbs] at hz)))
  ·have hl : l.length ≤ 25 := Int.ofNat_le.1 (by simpa using h)
   refine ⟨hl, fun a ha => ?_⟩
   obtain ⟨i, hi, rfl⟩ := List.mem_iff_getElem.1 ha
   exact hh i hi (by omega)
 ·refine ⟨false, ?_, fun h => by cases h⟩
  refine ku22.R rfl rfl ?_
  unfold u22
  simp only [ups_cons, ups_nil, List.cons_append, List.nil_append]
  repeat' ((with_reducible refine u_join ?_))
  refine u_range (fun i => [I i]) (fun i => ∀ k (h : k < i) (h2 : k < l.length), k ≤ 25 → l[k].facts.length ≤ 25) l.length rfl (fun _ => rfl) (fun k h => absurd h (Nat.not_lt_zero _)) (fun i hi hJ R hR => ?_) (fun hJ R => ?_)
  ·repeat' (first | ((with_reducible apply nrm); (· simp only [sbe]; rfl)) | ((with_reducible apply u_chk); (· rfl)) | ((with_reducible apply u_eaddr); (· rfl); (· rfl); (· exact eaddr_get hi rfl); (· simp only [sbe]; rfl)) | ((with_reducible apply u_lenL); (· rfl); (· exact lenL_map); (· simp only [sbe]; rfl)) | ((with_reducible apply u_inc); (· rfl); (· omega); (· simp only [sbe]; rfl)) | ((with_reducible apply u_ev); (· rfl); (· simp only [sbe]; rfl)) | ((with_reducible apply u_and); (· rfl)) | (with_reducible refine u_join ?_) | ((with_reducible apply u_jump); (· rfl); (· rfl)) | (with_reducible refine at_jump ?_) | (with_reducible refine over_jump (by decide) ?_) | (with_reducible refine kj rfl ?_) | ((with_reducible apply u_ite); (· rfl); all_goals (intro hz; (try simp only [sbs] at hz); first | (exact absurd hz (by decide)) | (exfalso; omega) | skip)) | (with_reducible exact u_ret rfl rfl) | ((with_reducible apply u_ret); (· rfl); first | exact rfl | (refine retB ?_) | (refine retI ?_) | (refine retD ?_)) | ((with_reducible intro hz); (try simp only [sbs] at hz)))
   ·refine hR fun k hk h2 h3 => ?_
    rcases Nat.lt_or_ge k i with h4 | h4
    ·exact hJ k h4 h2 h3
    ·have e : k = i := by omega
     subst e
     omega
   ·simp
    omega
  ·exact absurd (fun i h => hJ i h h) hh

def rightB (c : Cod) (car minute : Int) : Bool := decide (1 ≤ car) && decide (car ≤ c.cars) && decide (0 ≤ minute) && decide (minute ≤ 10000000)

theorem c24 (ho : okCode c = true) : FSpecW Try.prog 24 (.st bs) [c.d] (.tup [.loc bs.length 0, I 0]) (.st (bs ++ [.blk 99 9 (crtCells c .snil .snil)])) := by
 have hc := codOk_of ho
 have k41 := c41 (bs := bs) c
 rw [ho] at k41
 have k56 := c56 (bs := bs) c.arts (by have := hc.arts; omega)
 refine ku24.W rfl ?_
 unfold u24
 simp only [ups_cons, ups_nil, List.cons_append, List.nil_append]
 repeat' (first | ((with_reducible apply u_iteF); (· rfl); (· exact rfl)) | ((with_reducible apply u_chk); (· rfl)) | ((with_reducible apply u_ev); (· rfl); (· simp only [sbe]; rfl)) | ((with_reducible apply u_call); (· rfl); (· rfl); (· first | exact k41 | exact k56); (· rfl); (· simp only [sbe]; rfl)) | (with_reducible exact u_ret rfl rfl))

theorem open_court (bs : List D) (c : Cod) : Court (bs ++ [.blk 99 9 (crtCells c .snil .snil)]) (fun k => k = bs.length) bs.length c [] :=
 ⟨.snil, .snil, [], ⟨by simp, SlOf.nil⟩, SlOf.nil, rfl, fun k p idx h => (by simp [qOf, pro, prot] at h), fun k k' f f' i h => (by simp at h), rfl, fun i h => (by cases h), fun i h => (by cases h), fun k f i h => (by simp at h), fun k h => (by simp; omega)⟩

theorem acc_nil (c : Cod) : Acc c [] := fun i h => by simp at h

theorem acc_do (h : Acc c l) (a : Akt) : Acc c (doL c l a) := by
 unfold doL
 split
 ·exact acc_snoc.2 ⟨h, by assumption⟩
 ·exact h

theorem fac_do (h : Fac l) (ha : a.facts.length ≤ 1000000) : Fac (doL c l a) := by
 unfold doL
 split
 ·intro b hb
  rcases List.mem_append.1 hb with hb | hb
  ·exact h b hb
  ·simp at hb; rw [hb]; exact ha
 ·exact h

theorem len_do : (doL c l a).length ≤ l.length + 1 := by unfold doL; split <;> simp

structure CS (c : Cod) (j : Nat) where
 bs : List D
 F : Nat → Prop
 l : List Akt
 acc : Acc c l
 fac : Fac l
 crt : Court bs F j c l
 ny : noyls bs = true

noncomputable def CS.step (hc : CodOk c) (s : CS c j) (a : Akt) : CS c j :=
  if h : a.facts.length ≤ 1000000 then
    { bs := kill (Classical.choose (c26 s.acc hc s.crt a h))
      F := Classical.choose (Classical.choose_spec (c26 s.acc hc s.crt a h))
      l := doL c s.l a
      acc := acc_do s.acc a
      fac := fac_do s.fac h
      crt := Court.kill (Classical.choose_spec (Classical.choose_spec (c26 s.acc hc s.crt a h))).2.2
      ny := kill_noyl _ }
  else s

theorem CS.step_l (hc : CodOk c) (s : CS c j) {a : Akt} (h : a.facts.length ≤ 1000000) : (s.step hc a).l = doL c s.l a := by
  unfold CS.step; rw [dif_pos h]
theorem CS.step_do (hc : CodOk c) (s : CS c j) {a : Akt} (h : a.facts.length ≤ 1000000) : FSpecWO Try.prog 26 (.st s.bs) [.loc j 0, a.d] (.ret (.tup [I (doN c s.l a), I (refused c s.l a)])) (.st (s.step hc a).bs) := by
  unfold CS.step; rw [dif_pos h]
  exact FSpecWO.kill (Classical.choose_spec (Classical.choose_spec (c26 s.acc hc s.crt a h))).1
theorem CS.step_stp (hc : CodOk c) (s : CS c j) {a : Akt} (h : a.facts.length ≤ 1000000) : Stp s.bs s.F (s.step hc a).bs (s.step hc a).F := by
  unfold CS.step; rw [dif_pos h]
  exact stp_kill s.ny (Classical.choose_spec (Classical.choose_spec (c26 s.acc hc s.crt a h))).2.1

noncomputable def CS.run (hc : CodOk c) (s : CS c j) (l : List Akt) : CS c j := l.foldl (CS.step hc) s

theorem CS.run_snoc (hc : CodOk c) (s : CS c j) (l : List Akt) (a : Akt) : s.run hc (l ++ [a]) = (s.run hc l).step hc a := by simp [CS.run]

def CS.new (bs : List D) (c : Cod) : CS c bs.length := ⟨kill (bs ++ [.blk 99 9 (crtCells c .snil .snil)]), fun k => k = bs.length, [], acc_nil c, fun _ h => (by cases h), Court.kill (open_court bs c), kill_noyl _⟩

theorem c24n (ho : okCode c = true) : FSpecW Try.prog 24 (.st bs) [c.d] (.tup [.loc bs.length 0, I 0]) (.st (CS.new bs c).bs) := FSpecWO.kill (c24 ho)

def recOf (c : Cod) (l r : List Akt) : List Akt := r.foldl (doL c) l

theorem recOf_snoc (c : Cod) (l r : List Akt) (a : Akt) : recOf c l (r ++ [a]) = doL c (recOf c l r) a := by simp [recOf]

theorem CS.run_l (hc : CodOk c) (s : CS c j) : ∀ r : List Akt, Fac r → (s.run hc r).l = recOf c s.l r := by
 refine snocInd ?_ ?_
 ·intro _; rfl
 ·intro r a ih h
  rw [CS.run_snoc, recOf_snoc, CS.step_l hc _ (h a (by simp)), ih fun b hb => h b (by simp [hb])]

theorem recOf_len (c : Cod) : ∀ (r l : List Akt), (recOf c l r).length ≤ l.length + r.length := by
 refine snocInd ?_ ?_
 ·intro l; simp [recOf]
 ·intro r a ih l
  rw [recOf_snoc]
  have := ih l
  have h2 := len_do (c := c) (l := recOf c l r) (a := a)
  simp
  omega

theorem fac_take {l : List Akt} (h : Fac l) (i : Nat) : Fac (l.take i) := fun a ha => h a (List.mem_of_mem_take ha)

theorem take_one {l : List Akt} {i : Nat} (h : i < l.length) : l.take (i + 1) = l.take i ++ [l[i]] := List.take_succ_eq_append_getElem h

end Go.Am.Ct

/-
 A court that has done acts; states.
-/
namespace Go.Am.Ct
open Go.Proofs Go.Am.Ap
set_option maxRecDepth 100000
set_option maxHeartbeats 4000000

variable {bs : List D} {j : Nat} {c : Cod} {l : List Akt} {a : Akt} {F : Nat → Prop}

attribute [local irreducible] inR

theorem acc_rec {c : Cod} : ∀ (r l : List Akt), Acc c l → Acc c (recOf c l r) := by
 refine snocInd (fun l h => h) fun r a ih l h => ?_
 rw [recOf_snoc]
 exact acc_do (ih l h) a

abbrev rec (c : Cod) (l : List Akt) : List Akt := recOf c [] l

def errAt (c : Cod) (l : List Akt) (i : Nat) : Int := refused c (rec c (l.take i)) (nth l i)
def errs (c : Cod) (l : List Akt) (n : Nat) : List Int := (List.range n).map (errAt c l)

theorem rec_len (c : Cod) (l : List Akt) : (rec c l).length ≤ l.length := by
 have := recOf_len c l []
 simpa using this

theorem rec_take {i : Nat} (h : i < l.length) : rec c (l.take (i + 1)) = doL c (rec c (l.take i)) (nth l i) := by
 rw [take_one h, ← nth_get h]
 exact recOf_snoc c [] _ _

theorem mins_rec (c : Cod) (l : List Akt) : Mins (rec c l) := (inv_of _ (acc_rec l [] (acc_nil c))).mins

theorem c43 (hc : CodOk c) (hL : l.length ≤ 1000000) (hF : Fac l) : FSpecR Try.prog 43 (.st bs) [c.d, Rec l] (.tup [Rec (rec c l), Is (errs c l l.length)]) := by
 refine ku43.R rfl rfl ?_
 unfold u43
 simp only [ups_cons, ups_nil, List.cons_append, List.nil_append]
 repeat' (first | ((with_reducible apply u_chk); (· rfl)) | (with_reducible refine u_join ?_))
 refine u_range (fun i => [Rec (rec c (l.take i)), Is (errs c l i), I i]) (fun _ => True) l.length rfl (fun _ => rfl) trivial (fun i hi _ R hR => ?_) (fun _ R => ?_)
 ·have hr := hR trivial
  have hfi := hF _ (List.getElem_mem hi)
  have hlr := rec_len c (l.take i)
  have hti : (l.take i).length = i := by simp; omega
  have hca := hc.arts
  have h25 := c25 (bs := bs) (c := c) (l := rec c (l.take i)) (by omega) (by omega) (mins_rec c _) l[i] hfi
  have hel : (errs c l i).length = i := by simp [errs]
  have hm1 : (rec c (l.take i)).length + 1 ≤ maxLen := by unfold maxLen; omega
  have hm2 : (errs c l i).length + 1 ≤ maxLen := by unfold maxLen; omega
  have he : errs c l (i + 1) = errs c l i ++ [refused c (rec c (l.take i)) l[i]] := by
   unfold errs
   rw [List.range_succ, List.map_append]
   simp [errAt, nth_get hi]
  rw [rec_take hi, he, nth_get hi] at hr
  unfold doL at hr
  by_cases h0 : refused c (rec c (l.take i)) l[i] = 0
  ·rw [if_pos h0] at hr
   repeat' (first | ((with_reducible apply nrm); (· simp only [sbe]; rfl)) | ((with_reducible apply u_eaddr); (· rfl); (· rfl); (· exact eaddr_get hi rfl); (· simp only [sbe]; rfl)) | ((with_reducible apply u_app); (· rfl); (· rfl); (· first | exact app1_lst (enc := Akt.d) (a := l[i]) (by omega) hm1 (fun _ => rfl) | exact app1_lst (enc := I) (a := refused c (rec c (l.take i)) l[i]) (by omega) hm2 (fun _ => rfl)); (· simp only [sbe]; rfl)) | ((with_reducible apply u_lenL); (· rfl); (· exact lenL_map); (· simp only [sbe]; rfl)) | ((with_reducible apply u_inc); (· rfl); (· omega); (· simp only [sbe]; rfl)) | ((with_reducible apply u_ev); (· rfl); (· simp only [sbe]; rfl)) | ((with_reducible apply u_call); (· rfl); (· rfl); (· exact h25); (· rfl); (· simp only [sbe]; rfl)) | (with_reducible refine u_join ?_) | ((with_reducible apply u_jump); (· rfl); (· rfl)) | (with_reducible refine at_jump ?_) | (with_reducible refine kj rfl ?_) | ((with_reducible apply u_ite); (· rfl); all_goals (intro hz; (try simp only [sbs] at hz); first | (exact absurd hz (by decide)) | (exfalso; omega) | skip)))
   exact hr
  ·rw [if_neg h0] at hr
   repeat' (first | ((with_reducible apply nrm); (· simp only [sbe]; rfl)) | ((with_reducible apply u_eaddr); (· rfl); (· rfl); (· exact eaddr_get hi rfl); (· simp only [sbe]; rfl)) | ((with_reducible apply u_app); (· rfl); (· rfl); (· exact app1_lst (enc := I) (a := refused c (rec c (l.take i)) l[i]) (by omega) hm2 (fun _ => rfl)); (· simp only [sbe]; rfl)) | ((with_reducible apply u_lenL); (· rfl); (· exact lenL_map); (· simp only [sbe]; rfl)) | ((with_reducible apply u_inc); (· rfl); (· omega); (· simp only [sbe]; rfl)) | ((with_reducible apply u_ev); (· rfl); (· simp only [sbe]; rfl)) | ((with_reducible apply u_call); (· rfl); (· rfl); (· exact h25); (· rfl); (· simp only [sbe]; rfl)) | (with_reducible refine u_join ?_) | ((with_reducible apply u_jump); (· rfl); (· rfl)) | (with_reducible refine at_jump ?_) | (with_reducible refine kj rfl ?_) | ((with_reducible apply u_ite); (· rfl); all_goals (intro hz; (try simp only [sbs] at hz); first | (exact absurd hz (by decide)) | (exfalso; omega) | skip)))
   exact hr
 ·repeat' (first | ((with_reducible apply nrm); (· simp only [sbe]; rfl)) | ((with_reducible apply u_lenL); (· rfl); (· exact lenL_map); (· simp only [sbe]; rfl)) | ((with_reducible apply u_ev); (· rfl); (· simp only [sbe]; rfl)) | ((with_reducible apply u_jump); (· rfl); (· rfl)) | (with_reducible refine at_jump ?_) | (with_reducible refine over_jump (by decide) ?_) | (with_reducible refine kj rfl ?_) | ((with_reducible apply u_ite); (· rfl); all_goals (intro hz; (try simp only [sbs] at hz); first | (exact absurd hz (by decide)) | (exfalso; omega) | skip)) | ((with_reducible apply u_ret); (· rfl); first | exact rfl | (refine retB ?_) | (refine retI ?_) | (refine retD ?_)))
  rw [List.take_length]

noncomputable abbrev crt (hc : CodOk c) (bs : List D) (l : List Akt) : CS c bs.length := (CS.new bs c).run hc l

theorem crt_l (hc : CodOk c) (bs : List D) (hF : Fac l) : (crt hc bs l).l = rec c l := CS.run_l hc _ l hF

theorem crt_take (hc : CodOk c) (bs : List D) {i : Nat} (h : i < l.length) : crt hc bs (l.take (i + 1)) = (crt hc bs (l.take i)).step hc l[i] := by
 rw [take_one h]
 exact CS.run_snoc hc _ _ _

theorem errs_get {n i : Nat} (h : i < n) : (errs c l n)[i]? = some (errAt c l i) := by simp [errs, h]

theorem c30 (ho : okCode c = true) (hL : l.length ≤ 1000000) (hF : Fac l) : FSpecW Try.prog 30 (.st bs) [c.d, Rec l] (.tup [.loc bs.length 0, Rec (rec c l), B true]) (.st (crt (codOk_of ho) bs l).bs) := by
 have hc := codOk_of ho
 have k24 := c24n (bs := bs) ho
 have k43 := c43 (bs := (CS.new bs c).bs) hc hL hF
 refine ku30.W rfl ?_
 unfold u30
 simp only [ups_cons, ups_nil, List.cons_append, List.nil_append]
 repeat' (first | ((with_reducible apply nrm); (· simp only [sbe]; rfl)) | ((with_reducible apply u_iteF); (· rfl); (· exact rfl)) | ((with_reducible apply u_chk); (· rfl)) | ((with_reducible apply u_ev); (· rfl); (· simp only [sbe]; rfl)) | ((with_reducible apply u_call); (· rfl); (· rfl); (· exact k43); (· rfl); (· simp only [sbe]; rfl)) | ((with_reducible apply u_wcall); (· rfl); (· rfl); (· exact k24); (· rfl); (· simp only [sbe]; rfl)) | ((with_reducible apply u_or); (· rfl)) | (with_reducible refine u_join ?_) | (with_reducible exact u_ret rfl rfl) | ((with_reducible intro hz); (try simp only [sbs] at hz)))
 refine u_range (fun i => [I i, .st (crt hc bs (l.take i)).bs]) (fun _ => True) l.length rfl (fun _ => rfl) trivial (fun i hi _ R hR => ?_) (fun _ R => ?_)
 ·have hr := hR trivial
  have hfi := hF _ (List.getElem_mem hi)
  rw [crt_take hc bs hi] at hr
  have h26 := CS.step_do hc (crt hc bs (l.take i)) hfi
  have hl := crt_l hc bs (fac_take hF i)
  rw [hl] at h26
  have he : (errs c l l.length)[i]? = some (refused c (rec c (l.take i)) l[i]) := by rw [errs_get hi, errAt, nth_get hi]
  repeat' (first | ((with_reducible apply nrm); (· simp only [sbe]; rfl)) | ((with_reducible apply u_eaddr); (· rfl); (· rfl); (· first | exact eaddr_get hi rfl | exact eaddr_lst he rfl); (· simp only [sbe]; rfl)) | ((with_reducible apply u_lenL); (· rfl); (· exact lenL_map); (· simp only [sbe]; rfl)) | ((with_reducible apply u_inc); (· rfl); (· omega); (· simp only [sbe]; rfl)) | ((with_reducible apply u_ev); (· rfl); (· simp only [sbe]; rfl)) | ((with_reducible apply u_wcall); (· rfl); (· rfl); (· exact h26); (· rfl); (· simp only [sbe]; rfl)) | (with_reducible refine u_join ?_) | ((with_reducible apply u_jump); (· rfl); (· rfl)) | (with_reducible refine at_jump ?_) | (with_reducible refine kj rfl ?_) | ((with_reducible apply u_ite); (· rfl); all_goals (intro hz; (try simp only [sbs] at hz); first | (exact absurd hz (by decide)) | (exfalso; omega) | skip)))
  exact hr
 ·rw [List.take_length]
  repeat' (first | ((with_reducible apply nrm); (· simp only [sbe]; rfl)) | ((with_reducible apply u_lenL); (· rfl); (· exact lenL_map); (· simp only [sbe]; rfl)) | ((with_reducible apply u_ev); (· rfl); (· simp only [sbe]; rfl)) | ((with_reducible apply u_jump); (· rfl); (· rfl)) | (with_reducible refine at_jump ?_) | (with_reducible refine over_jump (by decide) ?_) | (with_reducible refine kj rfl ?_) | ((with_reducible apply u_ite); (· rfl); all_goals (intro hz; (try simp only [sbs] at hz); first | (exact absurd hz (by decide)) | (exfalso; omega) | skip)) | (with_reducible exact u_ret rfl rfl))

end Go.Am.Ct

/-
 States of cases at a minute.
-/
namespace Go.Am.Ct
open Go.Proofs Go.Am.Ap
set_option maxRecDepth 100000
set_option maxHeartbeats 4000000

variable {bs : List D} {j : Nat} {c : Cod} {l : List Akt} {a : Akt} {F : Nat → Prop}

attribute [local irreducible] inR

def pk (l : List Akt) (k : Int) : Nat := (pro l).getD k.toNat 0

def thereB (l : List Akt) (k m : Int) : Bool := decide (0 ≤ k) && decide (k < (pro l).length) && decide ((nth l (pk l k)).minute ≤ m)

def rState (c : Cod) (l : List Akt) (k m : Int) : Int := if thereB l k m = true then stR c l k m else 0

theorem rl_min {kd k m : Int} {i : Nat} (h : rlast l kd k m = i) : (nth l i).minute ≤ m := by
 have := rlast_at h
 simp only [isAct, Bool.and_eq_true, decide_eq_true_eq] at this
 exact this.2

theorem pk_eaddr {k : Int} (h0 : 0 ≤ k) (h1 : k < (pro l).length) : D.eaddr 1 (Ix (prot l l.length)) (I k) = some (.ptr [In (pk l k)]) ∧ D.eaddr 12 (Rec l) (In (pk l k)) = some (.ptr (nth l (pk l k)).cs) := by
 have h2 : k.toNat < (prot l l.length).length := by unfold pro at h1; omega
 have h3 : pk l k = (prot l l.length)[k.toNat] := by unfold pk pro; simp [h2]
 rw [h3]
 refine ⟨?_, eaddr_nth (prot_lt l l.length _ (List.getElem_mem h2))⟩
 have e3 := eaddr_get (xs := prot l l.length) (enc := In) (i := k.toNat) (sz := 1) h2 rfl
 rw [show ((k.toNat : Nat) : Int) = k by omega] at e3
 exact e3

theorem c33 (hL : l.length ≤ 1000000) (hm : Mins l) (k m : Int) (hb : i64 m) : FSpecR Try.prog 33 (.st bs) [c.d, Rec l, I k, I m] (I (rState c l k m)) := by
 refine ku33.R rfl rfl ?_
 unfold u33
 simp only [ups_cons, ups_nil, List.cons_append, List.nil_append]
 have hpl := prot_len l l.length
 have hin : inR k 0 (((prot l l.length).length : Int) - 1) = (decide (0 ≤ k) && decide (k < (pro l).length)) := by
  unfold inR pro
  by_cases h1 : k ≤ ((prot l l.length).length : Int) - 1
  ·rw [decide_eq_true h1, decide_eq_true (show k < ((prot l l.length).length : Int) by omega)]
  ·rw [decide_eq_false h1, decide_eq_false (show ¬ k < ((prot l l.length).length : Int) by omega)]
 have h55 := c55 (bs := bs) k 0 (((prot l l.length).length : Int) - 1)
 rw [hin] at h55
 have hpe := fun h0 h1 => pk_eaddr (l := l) (k := k) h0 h1
 have hd := rlast_lt l 3 k m
 have hd0 : 0 ≤ rlast l 3 k m → 0 ≤ (nth l (rlast l 3 k m).toNat).minute ∧ (nth l (rlast l 3 k m).toNat).minute ≤ m := fun h0 => by
  refine ⟨(hm.nth _).1, rl_min (kd := 3) (k := k) ?_⟩
  omega
 unfold i64 at hb
 unfold rState thereB stR
 by_cases hk : (decide (0 ≤ k) && decide (k < (pro l).length)) = true
 ·rw [hk] at h55
  simp only [Bool.and_eq_true, decide_eq_true_eq] at hk
  have hpe' := hpe hk.1 hk.2
  by_cases hm1 : m < (nth l (pk l k)).minute
  ·have ht : decide ((nth l (pk l k)).minute > m) = true := decide_eq_true hm1
   repeat' (first | ((with_reducible apply nrm); (· simp only [sbe]; rfl)) | ((with_reducible apply u_iteT); (· rfl); (· exact ht)) | ((with_reducible apply u_chk); (· rfl)) | ((with_reducible apply u_eaddr); (· rfl); (· rfl); (· first | exact hpe'.1 | exact hpe'.2); (· simp only [sbe]; rfl)) | ((with_reducible apply u_lenL); (· rfl); (· exact lenL_map); (· simp only [sbe]; rfl)) | ((with_reducible apply u_sub); (· rfl); (· rfl); (· omega); (· simp only [sbe]; rfl)) | ((with_reducible apply u_ev); (· rfl); (· simp only [sbe]; rfl)) | ((with_reducible apply u_call); (· rfl); (· rfl); (· first | exact c27 hL | exact h55); (· rfl); (· simp only [sbe]; rfl)) | ((with_reducible apply u_or); (· rfl)) | (with_reducible exact u_ret rfl rfl) | ((with_reducible apply u_ret); (· rfl); first | exact rfl | (refine retB ?_) | (refine retI ?_) | (refine retD ?_)) | ((with_reducible intro hz); (try simp only [sbs] at hz)))
   rw [if_neg]
   simp
   omega
  ·have ht : decide ((nth l (pk l k)).minute > m) = false := decide_eq_false hm1
   rw [if_pos (by simp; omega)]
   repeat' (first | ((with_reducible apply nrm); (· simp only [sbe]; rfl)) | ((with_reducible apply u_iteF); (· rfl); (· exact ht)) | ((with_reducible apply u_chk); (· rfl)) | ((with_reducible apply u_eaddr); (· rfl); (· rfl); (· first | exact hpe'.1 | exact hpe'.2 | exact eaddr_int (by omega) (by omega)); (· simp only [sbe]; rfl)) | ((with_reducible apply u_lenL); (· rfl); (· exact lenL_map); (· simp only [sbe]; rfl)) | ((with_reducible apply u_sub); (· rfl); (· rfl); (· omega); (· simp only [sbe]; rfl)) | ((with_reducible apply u_ev); (· rfl); (· simp only [sbe]; rfl)) | ((with_reducible apply u_call); (· rfl); (· rfl); (· first | exact c27 hL | exact h55 | exact c59 hL _ _ _); (· rfl); (· simp only [sbe]; rfl)) | ((with_reducible apply u_or); (· rfl)) | ((with_reducible apply u_ite); (· rfl); all_goals (intro hz; (try simp only [sbs] at hz); first | (exact absurd hz (by decide)) | (exfalso; omega) | skip)) | (with_reducible exact u_ret rfl rfl) | ((with_reducible apply u_ret); (· rfl); first | exact rfl | (refine retB ?_) | (refine retI ?_) | (refine retD ?_)) | ((with_reducible intro hz); (try simp only [sbs] at hz)))
   all_goals ((repeat' split) <;> omega)
 ·have hk : (decide (0 ≤ k) && decide (k < (pro l).length)) = false := by simpa using hk
  rw [hk] at h55
  repeat' (first | ((with_reducible apply nrm); (· simp only [sbe]; rfl)) | ((with_reducible apply u_iteT); (· rfl); (· exact rfl)) | ((with_reducible apply u_chk); (· rfl)) | ((with_reducible apply u_lenL); (· rfl); (· exact lenL_map); (· simp only [sbe]; rfl)) | ((with_reducible apply u_sub); (· rfl); (· rfl); (· omega); (· simp only [sbe]; rfl)) | ((with_reducible apply u_ev); (· rfl); (· simp only [sbe]; rfl)) | ((with_reducible apply u_call); (· rfl); (· rfl); (· first | exact c27 hL | exact h55); (· rfl); (· simp only [sbe]; rfl)) | ((with_reducible apply u_or); (· rfl)) | ((with_reducible apply u_ret); (· rfl); first | exact rfl | (refine retB ?_) | (refine retI ?_) | (refine retD ?_)) | ((with_reducible intro hz); (try simp only [sbs] at hz)))
  ·rw [hk]; rfl
  ·exact false

theorem u_orT {P : Program} {u v : U} {env : List D} {Q : Sig → Prop} {g : E} {p : Bool} (hg : g.eval env = some (.v (.bool p))) (hp : p = true) (k : NrmD P u (env ++ [.v (.bool true)]) Q) : denU P (.chain true g v u) env Q := by
 subst hp
 exact ⟨true, true, hg, fun e => (by cases e), k⟩

theorem c72 {sa sf : D} (h : ActsAt bs j c l sa sf) {p : Nat} (hp : p < l.length) {b1 n1 : Nat} (m : Int) : FSpecR Try.prog 72 (.st bs) [.loc j 0, .agg [I p, .sl b1 0 n1], I m] (B (decide ((nth l p).minute ≤ m))) := by
 refine ku72.R rfl rfl ?_
 unfold u72
 simp only [ups_cons, ups_nil, List.cons_append, List.nil_append]
 obtain ⟨b, rfl, hb⟩ := h.2.get hp
 repeat' (first | ((with_reducible apply u_chk); (· rfl)) | ((with_reducible apply u_ld); (· rfl); (· rfl); (· first | exact ld_blk h.1 rfl | exact ld_elc hb (fun _ => rfl) (List.getElem?_eq_getElem hp) rfl); (· simp only [sbe]; rfl)) | ((with_reducible apply u_eaddr); (· rfl); (· rfl); (· exact eaddr_sl hp); (· simp only [sbe]; rfl)) | ((with_reducible apply u_ev); (· rfl); (· simp only [sbe]; rfl)) | ((with_reducible apply u_ret); (· rfl); first | exact rfl | (refine retB ?_) | (refine retI ?_) | (refine retD ?_)))
 rw [nth_get hp]

def stE (c : Cod) (l : List Akt) (k m : Int) : Int := if inR m 0 10000000 = false then 2 else if rState c l k m = 0 then 5 else 0
def stS (c : Cod) (l : List Akt) (k m : Int) : Int := if inR m 0 10000000 = false then 0 else rState c l k m

theorem stR_pos (c : Cod) (l : List Akt) (k m : Int) : stR c l k m ≠ 0 := by
 unfold stR
 repeat' split
 all_goals omega

end Go.Am.Ct

/-
 Penalties.
-/
namespace Go.Am.Ct
open Go.Proofs Go.Am.Ap
set_option maxRecDepth 100000
set_option maxHeartbeats 4000000

variable {bs : List D} {j : Nat} {c : Cod} {l : List Akt} {a : Akt} {F : Nat → Prop}

attribute [local irreducible] inR

theorem c74 {sa sf : D} (h : ActsAt bs j c l sa sf) (car m : Int) : FSpecR Try.prog 74 (.st bs) [.loc j 0, I car, I m] (I (if (inR car 1 c.cars && inR m 0 10000000) = true then 0 else 2)) := by
 refine ku74.R rfl rfl ?_
 unfold u74
 simp only [ups_cons, ups_nil, List.cons_append, List.nil_append]
 repeat' (first | ((with_reducible apply nrm); (· simp only [sbe]; rfl)) | ((with_reducible apply u_iteF); (· rfl); (· exact rfl)) | ((with_reducible apply u_chk); (· rfl)) | ((with_reducible apply u_ld); (· rfl); (· rfl); (· exact ld_blk h.1 rfl); (· simp only [sbe]; rfl)) | ((with_reducible apply u_ev); (· rfl); (· simp only [sbe]; rfl)) | ((with_reducible apply u_call); (· rfl); (· rfl); (· first | exact c61 h | exact c52 _ _ _); (· rfl); (· simp only [sbe]; rfl)) | ((with_reducible apply u_or); (· rfl)) | ((with_reducible apply u_ite); (· rfl); all_goals (intro hz; (try simp only [sbs] at hz); first | (exact absurd hz (by decide)) | (exfalso; omega) | skip)) | (with_reducible exact u_ret rfl rfl) | ((with_reducible apply u_ret); (· rfl); first | exact rfl | (refine retB ?_) | (refine retI ?_) | (refine retD ?_)) | ((with_reducible intro hz); (try simp only [sbs] at hz)))
 ·rw [if_neg (by rcases hz with h1 | h1 <;> simp [h1])]
 ·rw [if_pos (by simp [hz])]

def rulGo (l : List Akt) (m : Int) : List Nat → Option Akt → Option Akt
 | [], o => o
 | i :: r, o => rulGo l m r (if (nth l i).minute ≤ m ∧ ((nth l i).kind = 3 ∨ (nth l i).kind = 5) then some (nth l i) else o)

theorem rulGo_cons (l : List Akt) (m : Int) (i : Nat) (r : List Nat) (o : Option Akt) : rulGo l m (i :: r) o = rulGo l m r (if (nth l i).minute ≤ m ∧ ((nth l i).kind = 3 ∨ (nth l i).kind = 5) then some (nth l i) else o) := rfl

def rcs (o : Option Akt) : List D := (o.getD Akt.zero).cs

theorem c84 {sa sf : D} (h : ActsAt bs j c l sa sf) {s : D} {idx : List Nat} (hs : SlOf bs 3 1 ncs s idx) (hi : ∀ i, i ∈ idx → i < l.length) (hL : idx.length ≤ 1000000) (p m : Int) : FSpecR Try.prog 84 (.st bs) [.loc j 0, .agg [I p, s], I m] (.tup [.agg (rcs (rulGo l m idx none)), B (rulGo l m idx none).isSome]) := by
  refine ku84.R rfl rfl ?_
  unfold u84
  simp only [ups_cons, ups_nil, List.cons_append, List.nil_append]
  repeat' (first | ((with_reducible apply u_chk); (· rfl)) | ((with_reducible apply u_lenL); (· rfl); (· exact hs.len); (· simp only [sbe]; rfl)) | (with_reducible refine u_join ?_))
  refine u_list idx (fun (o : Option Akt) i => [B o.isSome, I i, I (o.getD Akt.zero).kind, I (o.getD Akt.zero).minute, I (o.getD Akt.zero).paper, I (o.getD Akt.zero).cse, I (o.getD Akt.zero).by_, I (o.getD Akt.zero).against, I (o.getD Akt.zero).article, I (o.getD Akt.zero).at_, Is (o.getD Akt.zero).facts, I (o.getD Akt.zero).paid, B (o.getD Akt.zero).upheld, I (o.getD Akt.zero).penalty]) (fun r o => rulGo l m r o = rulGo l m idx none) none rfl (fun _ _ => rfl) rfl (fun i x o hx hlt hG R hR => ?_) (fun o hG R => ?_)
  · have hxl := hi x (List.mem_of_getElem? hx)
    obtain ⟨b1, rfl, hb1⟩ := hs.get hlt
    obtain ⟨b2, rfl, hb2⟩ := h.2.get hxl
    have hn := nth_get hxl
    rw [rulGo_cons, hn] at hG
    repeat' (first | ((with_reducible apply nrm); (· simp only [sbe]; rfl)) | ((with_reducible apply u_chk); (· rfl)) | ((with_reducible apply u_ld); (· rfl); (· rfl); (· first | exact ld_el0 hb1 (fun _ => rfl) hx rfl | exact ld_blk h.1 rfl | exact ld_el hb2 (fun _ => rfl) (List.getElem?_eq_getElem hxl)); (· simp only [sbe]; rfl)) | ((with_reducible apply u_eaddr); (· rfl); (· rfl); (· first | exact eaddr_sl hlt | exact eaddr_sl hxl); (· simp only [sbe]; rfl)) | ((with_reducible apply u_inc); (· rfl); (· omega); (· simp only [sbe]; rfl)) | ((with_reducible apply u_ev); (· rfl); (· simp only [sbe]; rfl)) | ((with_reducible apply u_or); (· rfl)) | ((with_reducible apply u_and); (· rfl)) | (with_reducible refine u_join ?_) | ((with_reducible apply u_jump); (· rfl); (· rfl)) | (with_reducible refine at_jump ?_) | (with_reducible refine kj rfl ?_) | ((with_reducible apply u_phiS); (· rfl); all_goals (intro hz; (try simp only [sbs] at hz); first | (exact absurd hz (by decide)) | (exfalso; omega) | (refine ⟨_, rfl, ?_⟩))) | ((with_reducible apply u_ite); (· rfl); all_goals (intro hz; (try simp only [sbs] at hz); first | (exact absurd hz (by decide)) | (exfalso; omega) | skip)) | (with_reducible exact u_ret rfl rfl) | ((with_reducible intro hz); (try simp only [sbs] at hz)))
    · rw [if_pos ⟨hz.1, hz.2⟩] at hG
      exact hR (some l[x]) hG
    · rw [if_neg (fun hh => by rcases hz with h1 | ⟨h1, h2⟩
                               · omega
                               · rcases hh.2 with h3 | h3
                                 · exact h1 h3
                                 · exact h2 h3)] at hG
      exact hR o hG
  · repeat' (first | ((with_reducible apply nrm); (· simp only [sbe]; rfl)) | ((with_reducible apply u_ev); (· rfl); (· simp only [sbe]; rfl)) | ((with_reducible apply u_jump); (· rfl); (· rfl)) | (with_reducible refine at_jump ?_) | (with_reducible refine over_jump (by decide) ?_) | (with_reducible refine kj rfl ?_) | ((with_reducible apply u_ite); (· rfl); all_goals (intro hz; (try simp only [sbs] at hz); first | (exact absurd hz (by decide)) | (exfalso; omega) | skip)) | ((with_reducible apply u_ret); (· rfl); first | exact rfl | (refine retB ?_) | (refine retI ?_) | (refine retD ?_)))
    have hG' : o = rulGo l m idx none := hG
    rw [← hG']
    rfl

def rulR (l : List Akt) (k m : Int) : Option Akt := if 0 ≤ rlast l 5 k m then some (nth l (rlast l 5 k m).toNat) else if 0 ≤ rlast l 3 k m then some (nth l (rlast l 3 k m).toNat) else none

theorem rulGo_opt (l : List Akt) (m x : Int) (r : List Nat) (o : Option Akt) : rulGo l m (opt x ++ r) o = rulGo l m r (if 0 ≤ x ∧ (nth l x.toNat).minute ≤ m ∧ ((nth l x.toNat).kind = 3 ∨ (nth l x.toNat).kind = 5) then some (nth l x.toNat) else o) := by
 unfold opt
 split
 ·rename_i h
  simp only [List.cons_append, List.nil_append, rulGo_cons, h, true_and]
 ·rename_i h
  simp [h]

theorem rul_eq (h : Inv c l) {k p : Nat} (hp : (pro l)[k]? = some p) {m : Int} (hm : m ≤ MM) : rulGo l m (idxOf l k p) none = rulR l k m := by
 have hkd : (nth l p).kind = 2 := pro_kind (List.mem_of_getElem? hp)
 have kinds : ∀ kd : Int, 0 ≤ rlast l kd k MM → (nth l (rlast l kd k MM).toNat).kind = kd := fun kd h0 => by
  obtain ⟨i, hi, _, hk, _⟩ := at_of h0
  rw [hi]
  simpa using hk
 unfold idxOf rulR
 rw [rulGo_cons, if_neg (by omega), rulGo_opt, rulGo_opt, rulGo_opt]
 rw [show opt (rlast l 6 k MM) = opt (rlast l 6 k MM) ++ [] by simp, rulGo_opt]
 rw [rl_m h (by omega : (3 : Int) ≤ 3) hm, rl_m h (by omega : (3 : Int) ≤ 5) hm]
 simp only [rulGo]
 have e6 : ¬ (0 ≤ rlast l 6 k MM ∧ (nth l (rlast l 6 k MM).toNat).minute ≤ m ∧ ((nth l (rlast l 6 k MM).toNat).kind = 3 ∨ (nth l (rlast l 6 k MM).toNat).kind = 5)) := fun hh => by
  have := kinds 6 hh.1; omega
 have e4 : ¬ (0 ≤ rlast l 4 k MM ∧ (nth l (rlast l 4 k MM).toNat).minute ≤ m ∧ ((nth l (rlast l 4 k MM).toNat).kind = 3 ∨ (nth l (rlast l 4 k MM).toNat).kind = 5)) := fun hh => by
  have := kinds 4 hh.1; omega
 rw [if_neg e6, if_neg e4]
 by_cases h5 : 0 ≤ rlast l 5 k MM ∧ (nth l (rlast l 5 k MM).toNat).minute ≤ m
 ·rw [if_pos ⟨h5.1, h5.2, .inr (kinds 5 h5.1)⟩, if_pos h5, if_pos h5.1]
 ·rw [if_neg (fun hh => h5 ⟨hh.1, hh.2.1⟩), if_neg h5]
  by_cases h3 : 0 ≤ rlast l 3 k MM ∧ (nth l (rlast l 3 k MM).toNat).minute ≤ m
  ·rw [if_pos ⟨h3.1, h3.2, .inl (kinds 3 h3.1)⟩, if_pos h3]
   simp [h3.1]
  ·rw [if_neg (fun hh => h3 ⟨hh.1, hh.2.1⟩), if_neg h3]
   simp

end Go.Am.Ct

/-
 What a ruling forces; the cases against a car.
-/
namespace Go.Am.Ct
open Go.Proofs Go.Am.Ap
set_option maxRecDepth 100000
set_option maxHeartbeats 4000000

variable {bs : List D} {j : Nat} {c : Cod} {l : List Akt} {a : Akt} {F : Nat → Prop}

attribute [local irreducible] inR

def ruled (c : Cod) (l : List Akt) (k m : Int) : Bool := decide (stR c l k m = 3) || decide (stR c l k m = 5)

def frP (c : Cod) (l : List Akt) (k m : Int) : Int := if ruled c l k m = true then ((rulR l k m).getD Akt.zero).penalty else 0
def frB (c : Cod) (l : List Akt) (k m : Int) : Bool := ruled c l k m && ((rulR l k m).isSome && ((rulR l k m).getD Akt.zero).upheld)

def agP (l : List Akt) (car m : Int) (k : Nat) : Bool := decide ((nth l (pk l k)).minute ≤ m) && decide ((nth l (pk l k)).against = car)
def ags (l : List Akt) (car m : Int) : List Nat := (List.range (pro l).length).filter (agP l car m)

def fD (fs : List (Int × D)) (k : Nat) : D := .agg (fcs (fs.getD k (0, .tup [])))

end Go.Am.Ct

/-
 Penalties, as the specification has them.
-/
namespace Go.Am.Ct
open Go.Proofs Go.Am.Ap
set_option maxRecDepth 100000
set_option maxHeartbeats 4000000

variable {bs : List D} {j : Nat} {c : Cod} {l : List Akt} {a : Akt} {F : Nat → Prop}

attribute [local irreducible] inR

def rulI (l : List Akt) (k m : Int) : Int := if rlast l 5 k m > rlast l 3 k m then rlast l 5 k m else rlast l 3 k m

theorem c102 (hL : l.length ≤ 1000000) (k m : Int) : FSpecR Try.prog 102 (.st bs) [Rec l, I k, I m] (I (rulI l k m)) := by
 refine ku102.R rfl rfl ?_
 unfold u102
 simp only [ups_cons, ups_nil, List.cons_append, List.nil_append]
 unfold rulI
 repeat' (first | ((with_reducible apply u_ev); (· rfl); (· simp only [sbe]; rfl)) | ((with_reducible apply u_call); (· rfl); (· rfl); (· exact c59 hL _ _ _); (· rfl); (· simp only [sbe]; rfl)) | (with_reducible exact u_ret rfl rfl))

theorem rulI_eq (hI : Inv c l) {k m : Int} (hm : m ≤ MM) : rulR l k m = if 0 ≤ rulI l k m then some (nth l (rulI l k m).toNat) else none := by
 have s := hI.shape k
 have s1 := s.dx
 have s2 := s.da
 have s3 := s.aj
 have s4 := s.oa
 have s5 := s.oj
 have l3 := rlast_lt l 3 k m
 have l5 := rlast_lt l 5 k m
 have e3 := rl_m hI (by omega : (3 : Int) ≤ 3) hm (k := k)
 have e5 := rl_m hI (by omega : (3 : Int) ≤ 5) hm (k := k)
 unfold rulR rulI
 by_cases h5 : 0 ≤ rlast l 5 k m
 ·have hlt : rlast l 5 k m > rlast l 3 k m := by
   split at e5
   ·split at e3 <;> omega
   ·omega
  rw [if_pos h5, if_pos hlt, if_pos h5]
 ·have hlt : ¬ rlast l 5 k m > rlast l 3 k m := by omega
  rw [if_neg h5, if_neg hlt]

theorem rulI_lt (l : List Akt) (k m : Int) : rulI l k m < l.length := by
 have l3 := rlast_lt l 3 k m
 have l5 := rlast_lt l 5 k m
 unfold rulI
 split <;> omega

theorem rulI_pos {k m : Int} (h : ruled c l k m = true) : 0 ≤ rulI l k m := by
 unfold ruled stR at h
 unfold rulI
 have l3 := rlast_lt l 3 k m
 have l5 := rlast_lt l 5 k m
 by_cases h6 : 0 ≤ rlast l 6 k m
 ·rw [if_pos h6] at h; simp at h
 ·rw [if_neg h6] at h
  by_cases h5 : 0 ≤ rlast l 5 k m
  ·split <;> omega
  ·rw [if_neg h5] at h
   by_cases h4 : 0 ≤ rlast l 4 k m
   ·rw [if_pos h4] at h; simp at h
   ·rw [if_neg h4] at h
    by_cases h3 : rlast l 3 k m < 0
    ·rw [if_pos h3] at h; simp at h
    ·split <;> omega

def fB (c : Cod) (l : List Akt) (k m : Int) : Bool := thereB l k m && frB c l k m
def fP (c : Cod) (l : List Akt) (k m : Int) : Int := if thereB l k m = true then frP c l k m else 0

theorem c78 (hI : Inv c l) (k m : Int) (hb : i64 m) (hm : m ≤ MM) : FSpecR Try.prog 78 (.st bs) [c.d, Rec l, I k, I m] (.tup [I (fP c l k m), B (fB c l k m)]) := by
 have hlen := hI.len
 have hL : l.length ≤ 1000000 := by omega
 refine ku78.R rfl rfl ?_
 unfold u78
 simp only [ups_cons, ups_nil, List.cons_append, List.nil_append]
 have hq := rulI_eq hI hm (k := k)
 have hlt := rulI_lt l k m
 unfold fP fB frP frB
 by_cases h : thereB l k m = true ∧ ruled c l k m = true
 ·have h0 := rulI_pos h.2
  have hs : rState c l k m = 3 ∨ rState c l k m = 5 := by
   have := h.2
   unfold rState
   rw [if_pos h.1]
   simpa [ruled] using this
  rw [if_pos h.1, h.2, h.1, hq, if_pos h0]
  have hf : (decide (rState c l k m ≠ 3) && decide (rState c l k m ≠ 5)) = false := by
   rcases hs with e | e <;> rw [e] <;> decide
  repeat' (first | ((with_reducible apply nrm); (· simp only [sbe]; rfl)) | ((with_reducible apply u_chk); (· rfl)) | ((with_reducible apply u_eaddr); (· rfl); (· rfl); (· exact eaddr_int h0 hlt); (· simp only [sbe]; rfl)) | ((with_reducible apply u_ev); (· rfl); (· simp only [sbe]; rfl)) | ((with_reducible apply u_call); (· rfl); (· rfl); (· first | exact c33 hL hI.mins k m hb | exact c102 hL k m); (· rfl); (· simp only [sbe]; rfl)) | ((with_reducible apply u_and); (· rfl)) | ((with_reducible apply u_ite); (· rfl); all_goals (intro hz; (try simp only [sbs] at hz); first | (exact absurd hz (by decide)) | (exfalso; omega) | skip)) | (with_reducible exact u_ret rfl rfl) | ((with_reducible intro hz); (try simp only [sbs] at hz)))
 ·have hs : rState c l k m ≠ 3 ∧ rState c l k m ≠ 5 := by
   unfold rState
   split
   ·rename_i h1
    have : ruled c l k m ≠ true := fun h2 => h ⟨h1, h2⟩
    simpa [ruled] using this
   ·omega
  have ht : (decide (rState c l k m ≠ 3) && decide (rState c l k m ≠ 5)) = true := by simp [hs.1, hs.2]
  have e1 : (thereB l k m && ruled c l k m) = false := by
   cases h1 : thereB l k m
   ·rfl
   ·cases h2 : ruled c l k m
    ·rfl
    ·exact absurd ⟨h1, h2⟩ h
  rw [← Bool.and_assoc, e1, Bool.false_and]
  have e2 : (if thereB l k m = true then if ruled c l k m = true then ((rulR l k m).getD Akt.zero).penalty else 0 else 0) = 0 := by
   split
   ·rename_i h1
    rw [if_neg (fun h2 => h ⟨h1, h2⟩)]
   ·rfl
  rw [e2]
  repeat' (first | ((with_reducible apply nrm); (· simp only [sbe]; rfl)) | ((with_reducible apply u_chk); (· rfl)) | ((with_reducible apply u_ev); (· rfl); (· simp only [sbe]; rfl)) | ((with_reducible apply u_call); (· rfl); (· rfl); (· exact c33 hL hI.mins k m hb); (· rfl); (· simp only [sbe]; rfl)) | ((with_reducible apply u_and); (· rfl)) | ((with_reducible apply u_ite); (· rfl); all_goals (intro hz; (try simp only [sbs] at hz); first | (exact absurd hz (by decide)) | (exfalso; omega) | skip)) | (with_reducible exact u_ret rfl rfl) | ((with_reducible intro hz); (try simp only [sbs] at hz)))

end Go.Am.Ct

/-
 The specification's Penalty.
-/
namespace Go.Am.Ct
open Go.Proofs Go.Am.Ap
set_option maxRecDepth 100000
set_option maxHeartbeats 4000000

variable {bs : List D} {j : Nat} {c : Cod} {l : List Akt} {a : Akt} {F : Nat → Prop}

attribute [local irreducible] inR

def ctb (c : Cod) (l : List Akt) (m : Int) (k : Nat) : Int := if fB c l k m = true then fP c l k m else 0
def cpr (c : Cod) (l : List Akt) (m : Int) (k : Nat) : Bool := (rState c l k m == 1) || (rState c l k m == 3) || (rState c l k m == 4)
def agB (l : List Akt) (car : Int) (k : Nat) : Bool := decide ((nth l (pk l k)).against = car)
def agC (l : List Akt) (car : Int) : List Nat := (List.range (pro l).length).filter (agB l car)
def pubW (c : Cod) (m : Int) (a : Akt) : Bool := decide (a.kind = 1) && inR (m - a.minute) 0 c.window

def penR (c : Cod) (l : List Akt) (car m : Int) : Int := ((agC l car).map (ctb c l m)).sum
def prvR (c : Cod) (l : List Akt) (car m : Int) : Bool := (agC l car).any (cpr c l m) || l.any (pubW c m)

theorem rul_kind {k m : Int} (h : 0 ≤ rulI l k m) : (nth l (rulI l k m).toNat).kind = 3 ∨ (nth l (rulI l k m).toNat).kind = 5 := by
 unfold rulI at h ⊢
 split at h
 ·rename_i h5
  rw [if_pos h5]
  obtain ⟨i, hi⟩ : ∃ i : Nat, rlast l 5 k m = i := ⟨(rlast l 5 k m).toNat, by omega⟩
  have hP := rlast_at hi
  simp only [isAct, Bool.and_eq_true, beq_iff_eq] at hP
  rw [hi]
  exact .inr (by simpa using hP.1.1)
 ·rename_i h5
  rw [if_neg h5]
  obtain ⟨i, hi⟩ : ∃ i : Nat, rlast l 3 k m = i := ⟨(rlast l 3 k m).toNat, by omega⟩
  have hP := rlast_at hi
  simp only [isAct, Bool.and_eq_true, beq_iff_eq] at hP
  rw [hi]
  exact .inl (by simpa using hP.1.1)

theorem actOk_pen {cars : Int} {a : Akt} (h : actOk cars a = true) (hk : a.kind = 3 ∨ a.kind = 5) : 0 ≤ a.penalty ∧ a.penalty ≤ 36000000 := by
 unfold actOk at h
 simp only [Bool.and_eq_true] at h
 have h := h.1
 rw [if_neg (by omega), if_neg (by omega), if_pos (by omega)] at h
 simp only [Bool.and_eq_true, decide_eq_true_eq, inR] at h
 omega

theorem frP_bd (hI : Inv c l) {k m : Int} (hm : m ≤ MM) : 0 ≤ frP c l k m ∧ frP c l k m ≤ 36000000 := by
 unfold frP
 split
 ·rename_i h
  rw [rulI_eq hI hm, if_pos (rulI_pos h)]
  have h0 := rulI_pos h
  have hlt := rulI_lt l k m
  exact actOk_pen (hI.ok _ (by omega)) (rul_kind h0)
 ·omega

theorem ctb_bd (hI : Inv c l) {m : Int} (hm : m ≤ MM) (k : Nat) : 0 ≤ ctb c l m k ∧ ctb c l m k ≤ 36000000 := by
 have := frP_bd hI (k := k) hm
 unfold ctb fP
 split
 ·split
  ·exact this
  ·omega
 ·omega

end Go.Am.Ct

/-
 What is paid and what is given back: the court's account and the specification's.
-/
namespace Go.Am.Ct
open Go.Proofs Go.Am.Ap
set_option maxHeartbeats 1000000

variable {c : Cod} {l : List Akt} {a : Akt}

attribute [local irreducible] inR

/-! ## sums -/

/-! ## the walk over a case's acts -/

/-! ## the accounts -/

end Go.Am.Ct

/-
 The specification's Balance.
-/
namespace Go.Am.Ct
open Go.Proofs Go.Am.Ap
set_option maxRecDepth 100000
set_option maxHeartbeats 4000000

variable {bs : List D} {j : Nat} {c : Cod} {l : List Akt} {a : Akt} {F : Nat → Prop}

attribute [local irreducible] inR

end Go.Am.Ct

/-
 The acts up to a minute, one after the other.
-/
namespace Go.Am.Ct
open Go.Proofs Go.Am.Ap
set_option maxRecDepth 100000
set_option maxHeartbeats 4000000

variable {bs : List D} {j : Nat} {c : Cod} {l : List Akt} {a : Akt} {F : Nat → Prop}

attribute [local irreducible] inR

end Go.Am.Ct

/-
 The court's Penalty.
-/
namespace Go.Am.Ct
open Go.Proofs Go.Am.Ap
set_option maxRecDepth 100000
set_option maxHeartbeats 4000000

variable {bs : List D} {j : Nat} {c : Cod} {l : List Akt} {a : Akt} {F : Nat → Prop}

attribute [local irreducible] inR

theorem filter_sum {P Q : Nat → Bool} {f : Nat → Int} : ∀ {r : List Nat}, (∀ k, k ∈ r → P k = true → Q k = true) → (∀ k, k ∈ r → Q k = true → P k = false → f k = 0) → ((r.filter P).map f).sum = ((r.filter Q).map f).sum
 | [], _, _ => rfl
 | k :: r, h1, h2 => by
  have ih := filter_sum (f := f) (r := r) (fun k hk => h1 k (by simp [hk])) (fun k hk => h2 k (by simp [hk]))
  rw [List.filter_cons, List.filter_cons]
  cases hp : P k
  ·cases hq : Q k
   ·simpa using ih
   ·simp [ih, h2 k (by simp) hq hp]
  ·simp [ih, h1 k (by simp) hp]

theorem filter_any {P Q : Nat → Bool} {f : Nat → Bool} : ∀ {r : List Nat}, (∀ k, k ∈ r → P k = true → Q k = true) → (∀ k, k ∈ r → Q k = true → P k = false → f k = false) → (r.filter P).any f = (r.filter Q).any f
 | [], _, _ => rfl
 | k :: r, h1, h2 => by
  have ih := filter_any (f := f) (r := r) (fun k hk => h1 k (by simp [hk])) (fun k hk => h2 k (by simp [hk]))
  rw [List.filter_cons, List.filter_cons]
  cases hp : P k
  ·cases hq : Q k
   ·simpa using ih
   ·simp [ih, h2 k (by simp) hq hp]
  ·simp [ih, h1 k (by simp) hp]

theorem there_no {k : Nat} {m : Int} (h : ¬ (nth l (pk l k)).minute ≤ m) : thereB l k m = false := by
 unfold thereB
 rw [decide_eq_false h]
 simp

theorem there_yes {k : Nat} {m : Int} (hk : k < (pro l).length) (h : (nth l (pk l k)).minute ≤ m) : thereB l k m = true := by
 unfold thereB
 rw [decide_eq_true h]
 simp
 omega

theorem ags_mem {car m : Int} {k : Nat} (h : k ∈ ags l car m) : k < (pro l).length ∧ (nth l (pk l k)).minute ≤ m ∧ (nth l (pk l k)).against = car := by
 unfold ags agP at h
 simp only [List.mem_filter, List.mem_range, Bool.and_eq_true, decide_eq_true_eq] at h
 exact h

theorem ags_sum (c : Cod) (car m : Int) : ((ags l car m).map (ctb c l m)).sum = penR c l car m := by
 unfold ags penR agC
 refine filter_sum (fun k _ h => ?_) (fun k _ h1 h2 => ?_)
 ·unfold agP at h; unfold agB; simp at h ⊢; exact h.2
 ·unfold agP at h2
  unfold agB at h1
  rw [h1, Bool.and_true, decide_eq_false_iff_not] at h2
  unfold ctb fB
  rw [there_no h2]
  simp

theorem ags_any (c : Cod) (car m : Int) : (ags l car m).any (cpr c l m) = (agC l car).any (cpr c l m) := by
 unfold ags agC
 refine filter_any (fun k _ h => ?_) (fun k _ h1 h2 => ?_)
 ·unfold agP at h; unfold agB; simp at h ⊢; exact h.2
 ·unfold agP at h2
  unfold agB at h1
  rw [h1, Bool.and_true, decide_eq_false_iff_not] at h2
  unfold cpr rState
  rw [there_no h2]
  simp

def upN (l : List Akt) (m : Int) : Nat := (l.takeWhile fun a => decide (a.minute ≤ m)).length

theorem upN_le (l : List Akt) (m : Int) : upN l m ≤ l.length := by
 unfold upN
 exact (List.takeWhile_sublist _).length_le

theorem upN_low {m : Int} : ∀ {l : List Akt} {i : Nat} (h : i < l.length), i < upN l m → l[i].minute ≤ m
 | [], i, h, _ => by simp at h
 | a :: r, i, h, hi => by
  unfold upN at hi
  rw [List.takeWhile_cons] at hi
  split at hi
  ·rename_i ha
   cases i with
   | zero => simpa using ha
   | succ i => exact upN_low (l := r) (by simpa using h) (by unfold upN; simpa using hi)
  ·simp at hi

theorem upN_up {m : Int} : ∀ {l : List Akt} (h : upN l m < l.length), m < l[upN l m].minute
 | [], h => by simp at h
 | a :: r, h => by
  by_cases ha : a.minute ≤ m
  ·have e : upN (a :: r) m = upN r m + 1 := by unfold upN; rw [List.takeWhile_cons, if_pos (by simpa using ha)]; simp
   have := upN_up (l := r) (m := m) (by rw [e] at h; simpa using h)
   simp only [e, List.getElem_cons_succ]
   exact this
  ·have e : upN (a :: r) m = 0 := by unfold upN; rw [List.takeWhile_cons, if_neg (by simpa using ha)]; rfl
   simp only [e, List.getElem_cons_zero]
   omega

def pubC (c : Cod) (m : Int) (a : Akt) : Bool := decide (a.kind = 1) && decide (m - a.minute ≤ c.window)

theorem up_any (hI : Inv c l) (m : Int) : (l.take (upN l m)).any (pubC c m) = l.any (pubW c m) := by
 rw [Bool.eq_iff_iff, List.any_eq_true, List.any_eq_true]
 constructor
 ·rintro ⟨a, ha, hp⟩
  obtain ⟨i, hi, rfl⟩ := List.mem_iff_getElem.1 ha
  have hi2 : i < upN l m ∧ i < l.length := by simp at hi; omega
  have hlow := upN_low hi2.2 hi2.1
  rw [List.getElem_take] at hp
  refine ⟨l[i], List.getElem_mem _, ?_⟩
  unfold pubC at hp
  unfold pubW inR
  simp only [Bool.and_eq_true, decide_eq_true_eq] at hp ⊢
  omega
 ·rintro ⟨a, ha, hp⟩
  obtain ⟨i, hi, rfl⟩ := List.mem_iff_getElem.1 ha
  unfold pubW inR at hp
  simp only [Bool.and_eq_true, decide_eq_true_eq] at hp
  have hlt : i < upN l m := by
   rcases Nat.lt_or_ge i (upN l m) with h | h
   ·exact h
   ·exfalso
    have h1 : upN l m < l.length := by omega
    have h2 := upN_up h1
    have h3 := hI.sorted _ _ h hi
    rw [nth_get h1, nth_get hi] at h3
    omega
  refine ⟨l[i], ?_, ?_⟩
  ·rw [List.mem_iff_getElem]
   exact ⟨i, by simp; omega, by simp⟩
  ·unfold pubC
   simp only [Bool.and_eq_true, decide_eq_true_eq]
   omega

def ysto (bs : List D) (c : Cod) (m : Int) (l : List Akt) (p : Bool) (i : Nat) : List D := bs ++ .blk 4 1 [B (p || (l.take i).any (pubC c m))] :: (l.take i).map fun a => .blk 43 12 a.cs

def penB (c : Cod) (car m : Int) : Bool := inR car 1 c.cars && inR m 0 10000000
def penE (c : Cod) (car m : Int) : Int := if penB c car m = true then 0 else 2
def penA (c : Cod) (l : List Akt) (car m : Int) : Int := if penB c car m = true then penR c l car m else 0
def prvA (c : Cod) (l : List Akt) (car m : Int) : Bool := penB c car m && prvR c l car m

end Go.Am.Ct

/-
 The court's Balance.
-/
namespace Go.Am.Ct
open Go.Proofs Go.Am.Ap
set_option maxRecDepth 100000
set_option maxHeartbeats 4000000

variable {bs : List D} {j : Nat} {c : Cod} {l : List Akt} {a : Akt} {F : Nat → Prop}

attribute [local irreducible] inR

theorem loop_exit {P : Program} {u : U} {env : List D} {Q : Sig → Prop} {K : List D → Prop} {n : Nat} (X : List D) (h : denU P u env (catchL n (fun ds => ds = X) (fun _ => False))) (k : K X) : denU P u env (catchL n K Q) :=
 denU_mono (fun s hs => by
  cases s with
  | jump l' ds =>
   simp only [catchL] at hs ⊢
   split
   ·rename_i e; rw [if_pos e] at hs; rw [hs]; exact k
   ·rename_i e; rw [if_neg e] at hs; exact hs.elim
  | ret d => exact hs.elim
  | pan d st sl kd => exact hs.elim) h

end Go.Am.Ct

/-
 Cases that contradict each other: the court's clash.
-/
namespace Go.Am.Ct
open Go.Proofs Go.Am.Ap
set_option maxRecDepth 100000
set_option maxHeartbeats 4000000

variable {bs : List D} {j : Nat} {c : Cod} {l : List Akt} {a : Akt} {F : Nat → Prop}

attribute [local irreducible] inR

theorem c105 (xs ys : List Int) (hx : xs.length ≤ 1000000000) : FSpecR Try.prog 105 (.st bs) [Is xs, Is ys] (B (decide (xs = ys))) := by
 refine ku105.R rfl rfl ?_
 unfold u105
 simp only [ups_cons, ups_nil, List.cons_append, List.nil_append]
 repeat' (first | ((with_reducible apply u_lenL); (· rfl); (· exact lenL_map); (· simp only [sbe]; rfl)) | ((with_reducible apply u_ev); (· rfl); (· simp only [sbe]; rfl)) | (with_reducible refine u_join ?_) | ((with_reducible apply u_ite); (· rfl); all_goals (intro hz; (try simp only [sbs] at hz); first | (exact absurd hz (by decide)) | (exfalso; omega) | skip)) | ((with_reducible apply u_ret); (· rfl); first | exact rfl | (refine retB ?_) | (refine retI ?_) | (refine retD ?_)))
 ·symm
  simp
  intro e
  rw [e] at hz
  simp at hz
 ·have hz : xs.length = ys.length := by omega
  refine u_range (fun i => [I i]) (fun i => ∀ k, k < i → xs[k]? = ys[k]?) xs.length rfl (fun _ => rfl) (fun k h => absurd h (Nat.not_lt_zero _)) (fun i hi hJ R hR => ?_) (fun hJ R => ?_)
  ·have hi' : i < ys.length := by omega
   repeat' (first | ((with_reducible apply nrm); (· simp only [sbe]; rfl)) | ((with_reducible apply u_eaddr); (· rfl); (· rfl); (· first | exact eaddr_get hi rfl | exact eaddr_get hi' rfl); (· simp only [sbe]; rfl)) | ((with_reducible apply u_inc); (· rfl); (· omega); (· simp only [sbe]; rfl)) | ((with_reducible apply u_ev); (· rfl); (· simp only [sbe]; rfl)) | (with_reducible refine u_join ?_) | ((with_reducible apply u_jump); (· rfl); (· rfl)) | (with_reducible refine at_jump ?_) | (with_reducible refine kj rfl ?_) | ((with_reducible apply u_ite); (· rfl); all_goals (intro hz; (try simp only [sbs] at hz); first | (exact absurd hz (by decide)) | (exfalso; omega) | skip)) | ((with_reducible apply u_ret); (· rfl); first | exact rfl | (refine retB ?_) | (refine retI ?_) | (refine retD ?_)))
   ·symm
    simp
    intro e
    subst e
    exact hz rfl
   ·refine hR fun k hk => ?_
    rcases Nat.lt_or_ge k i with h3 | h3
    ·exact hJ k h3
    ·have e : k = i := by omega
     subst e
     rw [List.getElem?_eq_getElem hi, List.getElem?_eq_getElem hi', hz]
  ·repeat' (first | ((with_reducible apply nrm); (· simp only [sbe]; rfl)) | ((with_reducible apply u_ev); (· rfl); (· simp only [sbe]; rfl)) | ((with_reducible apply u_jump); (· rfl); (· rfl)) | (with_reducible refine at_jump ?_) | (with_reducible refine over_jump (by decide) ?_) | (with_reducible refine kj rfl ?_) | ((with_reducible apply u_ite); (· rfl); all_goals (intro hz; (try simp only [sbs] at hz); first | (exact absurd hz (by decide)) | (exfalso; omega) | skip)) | ((with_reducible apply u_ret); (· rfl); first | exact rfl | (refine retB ?_) | (refine retI ?_) | (refine retD ?_)))
   symm
   simp
   refine List.ext_getElem? fun k => ?_
   rcases Nat.lt_or_ge k xs.length with h | h
   ·exact hJ k h
   ·rw [List.getElem?_eq_none h, List.getElem?_eq_none (by omega)]

def verK (c : Cod) (l : List Akt) (k : Nat) : Int := ver c.arts (nth l (pk l k)).article (nth l (pk l k)).at_ c.arts.length

def clB (c : Cod) (l : List Akt) (m : Int) (x y : Nat) : Bool :=
 decide (rState c l x m = 5 ∧ rState c l y m = 5) && (decide (verK c l x = verK c l y ∧ (nth l (pk l x)).facts = (nth l (pk l y)).facts) && ((fB c l x m != fB c l y m) || (fB c l x m && (fP c l x m != fP c l y m))))

theorem thereK {k p : Nat} (hp : (pro l)[k]? = some p) (m : Int) : thereB l k m = decide ((nth l p).minute ≤ m) := by
 have hk := (List.getElem?_eq_some_iff.1 hp).1
 unfold thereB
 have hpk : pk l k = p := by unfold pk; simp [hp]
 rw [hpk, decide_eq_true (show (0 : Int) ≤ k by omega), decide_eq_true (show (k : Int) < (pro l).length by omega)]
 simp

theorem five (hI : Inv c l) {k p : Nat} (hp : (pro l)[k]? = some p) {m : Int} (hm : m ≤ MM) (h5 : rState c l k m = 5) :
  (nth l p).minute ≤ m ∧ stR c l k m = 5 ∧ ∃ r, rulR l k m = some r ∧ fB c l k m = r.upheld ∧ fP c l k m = r.penalty := by
 have ht : thereB l k m = true := by
  cases e : thereB l k m
  ·unfold rState at h5; rw [e] at h5; simp at h5
  ·rfl
 have hs : stR c l k m = 5 := by unfold rState at h5; rwa [if_pos ht] at h5
 have hr : ruled c l k m = true := by unfold ruled; simp [hs]
 have h0 := rulI_pos hr
 have hq := rulI_eq hI hm (k := k)
 rw [if_pos h0] at hq
 refine ⟨?_, hs, _, hq, ?_, ?_⟩
 ·rw [thereK hp] at ht; simpa using ht
 ·unfold fB frB; rw [ht, hr, hq]; simp
 ·unfold fP frP; rw [if_pos ht, if_pos hr, hq]; simp

theorem c85 (hA : Acc c l) (hc : CodOk c) {sa sf : D} {fs : List (Int × D)} (h : Crt bs F j c l (qOf l) sa sf fs) {x y : Nat} (hx : x < (pro l).length) (hy : y < (pro l).length) {m : Int} (hm : 0 ≤ m ∧ m ≤ 10000000) (hfac : Fac l) :
  FSpecR Try.prog 85 (.st bs) [.loc j 0, fD fs x, fD fs y, I m] (B (clB c l m x y)) := by
 have hI := inv_of l hA
 have hlen := hI.len
 have hfl : fs.length = (pro l).length := by rw [h.len, qOf_len]
 have hca := hc.arts
 have hb : i64 m := ⟨by omega, by omega⟩
 have hmM : m ≤ MM := by unfold MM; omega
 have hmn : ∀ a, a ∈ l → 0 ≤ a.minute := fun a ha => by have := hI.mins a ha; unfold inR at this; simp at this; omega
 obtain ⟨p, hp⟩ : ∃ p, (pro l)[x]? = some p := ⟨_, List.getElem?_eq_getElem hx⟩
 obtain ⟨q, hq⟩ : ∃ q, (pro l)[y]? = some q := ⟨_, List.getElem?_eq_getElem hy⟩
 obtain ⟨s1, hF⟩ := h.caseAt hA hp
 obtain ⟨s2, hG⟩ := h.caseAt hA hq
 have hFs := hF.sl
 have hGs := hG.sl
 obtain ⟨b1, rfl, hb1⟩ := hFs.get (List.length_pos_iff.2 hF.ne)
 obtain ⟨b2, rfl, hb2⟩ := hGs.get (List.length_pos_iff.2 hG.ne)
 have hact := h.acts.2
 obtain ⟨b, rfl, hb3⟩ := hact.get hF.pl
 have ep : pk l x = p := by unfold pk; simp [hp]
 have eq : pk l y = q := by unfold pk; simp [hq]
 have hfx : fD fs x = .agg [I p, .sl b1 0 (idxOf l x p).length] := by unfold fD; simp [hF.fk]; rfl
 have hfy : fD fs y = .agg [I q, .sl b2 0 (idxOf l y q).length] := by unfold fD; simp [hG.fk]; rfl
 rw [hfx, hfy]
 have h72x := c72 h.acts hF.pl (b1 := b1) (n1 := (idxOf l x p).length) m
 have h72y := c72 h.acts hG.pl (b1 := b2) (n1 := (idxOf l y q).length) m
 have h73x := c73 h.acts hmn hF.sl hF.lt hF.len p m hb
 have h73y := c73 h.acts hmn hG.sl hG.lt hG.len q m hb
 have hvx := hF.ver
 have hvy := hG.ver
 refine ku85.R rfl rfl ?_
 unfold u85
 simp only [ups_cons, ups_nil, List.cons_append, List.nil_append]
 by_cases H : rState c l x m = 5 ∧ rState c l y m = 5
 ·obtain ⟨tx, sx, r, rx, bx, px⟩ := five hI hp hmM H.1
  obtain ⟨ty, sy, r', ry, bY, py⟩ := five hI hq hmM H.2
  rw [decide_eq_true tx] at h72x
  rw [decide_eq_true ty] at h72y
  rw [state_eq hI hp hmM tx, sx] at h73x
  rw [state_eq hI hq hmM ty, sy] at h73y
  have h84x := c84 h.acts hF.sl hF.lt hF.len p m
  have h84y := c84 h.acts hG.sl hG.lt hG.len q m
  rw [rul_eq hI hp hmM, rx] at h84x
  rw [rul_eq hI hq hmM, ry] at h84y
  unfold rcs at h84x h84y
  simp only [Option.getD_some, Option.isSome_some] at h84x h84y
  have h81x := c81 (bs := bs) c (nth l p).article (nth l p).at_ (by omega)
  have h81y := c81 (bs := bs) c (nth l q).article (nth l q).at_ (by omega)
  have hfx : (nth l p).facts.length ≤ 1000000000 := by
   have := hfac (nth l p) (by rw [nth_get hF.pl]; exact List.getElem_mem _)
   omega
  have h105 := c105 (bs := bs) (nth l p).facts (nth l q).facts hfx
  have hcl : clB c l m x y = (decide (ver c.arts (nth l p).article (nth l p).at_ c.arts.length = ver c.arts (nth l q).article (nth l q).at_ c.arts.length ∧ (nth l p).facts = (nth l q).facts) && ((r.upheld != r'.upheld) || (r.upheld && (r.penalty != r'.penalty)))) := by
   unfold clB verK
   rw [decide_eq_true H, ep, eq, bx, bY, px, py, Bool.true_and]
  rw [hcl]
  rw [nth_get hF.pl, nth_get hG.pl] at *
  repeat' (first | ((with_reducible apply nrm); (· simp only [sbe]; rfl)) | ((with_reducible apply u_iteF); (· rfl); (· exact rfl)) | ((with_reducible apply u_chk); (· rfl)) | ((with_reducible apply u_ld); (· rfl); (· rfl); (· first | exact ld_blk h.acts.1 rfl | exact ldN_blk h.acts.1 (Nat.le_of_ble_eq_true rfl) | exact ld_el hb3 (fun _ => rfl) (List.getElem?_eq_getElem hF.pl) | exact ld_el hb3 (fun _ => rfl) (List.getElem?_eq_getElem hG.pl)); (· simp only [sbe]; rfl)) | ((with_reducible apply u_eaddr); (· rfl); (· rfl); (· first | exact eaddr_sl hF.pl | exact eaddr_sl hG.pl); (· simp only [sbe]; rfl)) | ((with_reducible apply u_ev); (· rfl); (· simp only [sbe]; rfl)) | ((with_reducible apply u_call); (· rfl); (· rfl); (· first | exact h72x | exact h72y | exact h73x | exact h73y | exact h81x | exact h81y | exact h105 | exact h84x | exact h84y); (· rfl); (· simp only [sbe]; rfl)) | ((with_reducible apply u_or); (· rfl)) | ((with_reducible apply u_and); (· rfl)) | ((with_reducible apply u_ite); (· rfl); all_goals (intro hz; (try simp only [sbs] at hz); first | (exact absurd hz (by decide)) | (exfalso; omega) | skip)) | (with_reducible exact u_ret rfl rfl) | ((with_reducible apply u_ret); (· rfl); first | exact rfl | (refine retB ?_) | (refine retI ?_) | (refine retD ?_)) | ((with_reducible intro hz); (try simp only [sbs] at hz)))
  ·rw [decide_eq_false (show ¬ (_ ∧ _) from fun hh => hz.elim (fun h => h hh.1) (fun h => h hh.2)), Bool.false_and]
  ·rw [decide_eq_true hz, Bool.true_and]
   rfl
 ·have hcl : clB c l m x y = false := by unfold clB; rw [decide_eq_false H, Bool.false_and]
  rw [hcl]
  have ht : (((!decide ((nth l p).minute ≤ m) || !decide ((nth l q).minute ≤ m)) || (stGo l c.second m (idxOf l x p) 1 != 5)) || (stGo l c.second m (idxOf l y q) 1 != 5)) = true := by
   by_cases t1 : (nth l p).minute ≤ m
   ·by_cases t2 : (nth l q).minute ≤ m
    ·rw [decide_eq_true t1, decide_eq_true t2, state_eq hI hp hmM t1, state_eq hI hq hmM t2]
     unfold rState at H
     rw [thereK hp, thereK hq, decide_eq_true t1, decide_eq_true t2] at H
     simp at H ⊢
     by_cases e : stR c l x m = 5
     ·exact .inr (H e)
     ·exact .inl e
    ·simp [t2]
   ·simp [t1]
  repeat' (first | ((with_reducible apply nrm); (· simp only [sbe]; rfl)) | ((with_reducible apply u_iteT); (· rfl); (· exact ht)) | ((with_reducible apply u_chk); (· rfl)) | ((with_reducible apply u_ev); (· rfl); (· simp only [sbe]; rfl)) | ((with_reducible apply u_call); (· rfl); (· rfl); (· first | exact h72x | exact h72y | exact h73x | exact h73y); (· rfl); (· simp only [sbe]; rfl)) | ((with_reducible apply u_or); (· rfl)) | (with_reducible exact u_ret rfl rfl) | ((with_reducible intro hz); (try simp only [sbs] at hz)))

end Go.Am.Ct

/-
 Cases that contradict each other: all of them.
-/
namespace Go.Am.Ct
open Go.Proofs Go.Am.Ap
set_option maxRecDepth 100000
set_option maxHeartbeats 4000000

variable {bs : List D} {j : Nat} {c : Cod} {l : List Akt} {a : Akt} {F : Nat → Prop}

attribute [local irreducible] inR

def pairD (p : Nat × Nat) : D := .agg [In p.1, In p.2]
def rowD (f : Nat → Nat → Bool) (n x : Nat) : List (Nat × Nat) := ((List.range' (x + 1) (n - (x + 1))).filter (f x)).map (fun y => (x, y))
def disp (c : Cod) (l : List Akt) (m : Int) : List (Nat × Nat) := (List.range (pro l).length).flatMap (rowD (clB c l m) (pro l).length)

theorem rowD_len (f : Nat → Nat → Bool) (n x : Nat) : (rowD f n x).length ≤ n := by
 unfold rowD
 rw [List.length_map]
 have := List.length_filter_le (f x) (List.range' (x + 1) (n - (x + 1)))
 simp at this
 omega

theorem rows_len (f : Nat → Nat → Bool) (n : Nat) : ∀ r : List Nat, (r.flatMap (rowD f n)).length ≤ r.length * n
 | [] => by simp
 | x :: r => by
  have := rows_len f n r
  have h1 := rowD_len f n x
  rw [List.flatMap_cons, List.length_append, List.length_cons, Nat.succ_mul]
  omega

theorem disp_len (c : Cod) {l : List Akt} (m : Int) (h : l.length ≤ 2000) : (disp c l m).length ≤ 4000000 := by
 have hpl : (pro l).length ≤ l.length := by unfold pro; have := prot_len l l.length; omega
 have h1 := rows_len (clB c l m) (pro l).length (List.range (pro l).length)
 rw [List.length_range] at h1
 have h2 := Nat.mul_le_mul (show (pro l).length ≤ 2000 by omega) (show (pro l).length ≤ 2000 by omega)
 exact Nat.le_trans h1 h2

theorem minE {m : Int} (h : inR m 0 10000000 = true) : 0 ≤ m ∧ m ≤ 10000000 := by unfold inR at h; simpa using h

theorem c74one {sa sf : D} (hc : CodOk c) (h : ActsAt bs j c l sa sf) (m : Int) : FSpecR Try.prog 74 (.st bs) [.loc j 0, I 1, I m] (I (if inR m 0 10000000 = true then 0 else 2)) := by
 have h74 := c74 h 1 m
 have : inR 1 1 c.cars = true := by
  have := hc.cars
  unfold inR
  simp
  omega
 rw [this, Bool.true_and] at h74
 exact h74

theorem c47no {sa sf : D} (hc : CodOk c) (h : ActsAt bs j c l sa sf) (m : Int) (hr : inR m 0 10000000 = false) : FSpecR Try.prog 47 (.st bs) [.loc j 0, I m] (.tup [.lst [], I 2]) := by
 have h74 := c74one hc h m
 rw [if_neg (by simp [hr])] at h74
 refine ku47.R rfl rfl ?_
 unfold u47
 simp only [ups_cons, ups_nil, List.cons_append, List.nil_append]
 repeat' (first | ((with_reducible apply u_iteT); (· rfl); (· exact rfl)) | ((with_reducible apply u_ev); (· rfl); (· simp only [sbe]; rfl)) | ((with_reducible apply u_call); (· rfl); (· rfl); (· exact h74); (· rfl); (· simp only [sbe]; rfl)) | (with_reducible exact u_ret rfl rfl))

theorem c47 (hA : Acc c l) (hc : CodOk c) {sa sf : D} {fs : List (Int × D)} (h : Crt bs F j c l (qOf l) sa sf fs) {m : Int} (hr : inR m 0 10000000 = true) (hfac : Fac l) : FSpecR Try.prog 47 (.st bs) [.loc j 0, I m] (.tup [.lst ((disp c l m).map pairD), I 0]) := by
 have hI := inv_of l hA
 have hlen := hI.len
 have hfl : fs.length = (pro l).length := by rw [h.len, qOf_len]
 have hpl : (pro l).length ≤ l.length := by unfold pro; have := prot_len l l.length; omega
 have h74 := c74one hc h.acts m
 rw [if_pos hr] at h74
 have hm := minE hr
 refine ku47.R rfl rfl ?_
 unfold u47
 simp only [ups_cons, ups_nil, List.cons_append, List.nil_append]
 repeat' (first | ((with_reducible apply u_iteF); (· rfl); (· exact rfl)) | ((with_reducible apply u_chk); (· rfl)) | ((with_reducible apply u_ld); (· rfl); (· rfl); (· exact ld_blk h.acts.1 rfl); (· simp only [sbe]; rfl)) | ((with_reducible apply u_lenL); (· rfl); (· exact h.files.len); (· simp only [sbe]; rfl)) | ((with_reducible apply u_ev); (· rfl); (· simp only [sbe]; rfl)) | ((with_reducible apply u_call); (· rfl); (· rfl); (· exact h74); (· rfl); (· simp only [sbe]; rfl)) | (with_reducible refine u_join ?_))
 refine u_list (List.range fs.length) (fun (acc : List (Nat × Nat)) i => [.lst (acc.map pairD), I i]) (fun r acc => acc ++ r.flatMap (rowD (clB c l m) fs.length) = disp c l m ∧ acc.length + 2000 * r.length ≤ 4000000) [] rfl (fun _ _ => rfl) ⟨by rw [hfl]; rfl, by simp; omega⟩ (fun i x acc hx hlt hG R hR => ?_) (fun acc hG R => ?_)
 ·obtain ⟨hlt2, rfl⟩ : i < fs.length ∧ x = i := by
   rw [List.getElem?_range (by simpa using hlt)] at hx
   exact ⟨by simpa using hlt, by simpa using hx.symm⟩
  obtain ⟨f1, f2⟩ := hG
  rw [List.flatMap_cons, ← List.append_assoc] at f1
  simp only [List.length_cons] at f2
  have hfs := h.files
  obtain ⟨b, rfl, hbk⟩ := hfs.get hlt2
  have hli : decide ((x : Int) < (fs.length : Int)) = true := by simp; omega
  have hrl := rowD_len (clB c l m) fs.length x
  have fdo : ∀ k (hk : k < fs.length), ∃ (p b1 n1 : Nat), fs[k]? = some ((p : Int), D.sl b1 0 n1) ∧ fD fs k = .agg (fcs ((p : Int), D.sl b1 0 n1)) := fun k hk => by
   obtain ⟨p, hp⟩ : ∃ p, (pro l)[k]? = some p := ⟨_, List.getElem?_eq_getElem (by omega)⟩
   obtain ⟨s, hF⟩ := h.caseAt hA hp
   have hFs := hF.sl
   obtain ⟨b1, rfl, hb1⟩ := hFs.get (List.length_pos_iff.2 hF.ne)
   exact ⟨p, b1, _, hF.fk, by unfold fD; simp [hF.fk]⟩
  obtain ⟨px, bx, nx, hfx, hd1⟩ := fdo x hlt2
  repeat' (first | ((with_reducible apply nrm); (· simp only [sbe]; rfl)) | ((with_reducible apply u_iteT); (· rfl); (· exact hli)) | ((with_reducible apply u_chk); (· rfl)) | ((with_reducible apply u_ld); (· rfl); (· rfl); (· exact ld_el hbk (fun _ => rfl) hfx); (· simp only [sbe]; rfl)) | ((with_reducible apply u_eaddr); (· rfl); (· rfl); (· exact eaddr_sl hlt2); (· simp only [sbe]; rfl)) | ((with_reducible apply u_inc); (· rfl); (· omega); (· simp only [sbe]; rfl)) | ((with_reducible apply u_ev); (· rfl); (· simp only [sbe]; rfl)) | (with_reducible refine u_join ?_))
  refine loop_exit [.lst ((acc ++ rowD (clB c l m) fs.length x).map pairD), I fs.length, I fs.length, .loc j 0, .loc j 8, .sl b 0 fs.length, I fs.length, B (decide ((fs.length : Int) < (fs.length : Int)))] ?_ ?_
  ·refine u_list (List.range' (x + 1) (fs.length - (x + 1))) (fun (ac : List (Nat × Nat)) i => [.lst (ac.map pairD), I ((x + 1 + i : Nat) : Int)]) (fun r ac => ac ++ (r.filter (clB c l m x)).map (fun y => (x, y)) = acc ++ rowD (clB c l m) fs.length x ∧ ac.length + r.length ≤ 4000000) acc rfl (fun _ _ => rfl) ⟨rfl, by simp; omega⟩ (fun i y ac hy hlt3 hG R hR => ?_) (fun ac hG R => ?_)
   ·obtain ⟨hlt4, rfl⟩ : x + 1 + i < fs.length ∧ y = x + 1 + i := by
     have h1 : i < fs.length - (x + 1) := by simpa using hlt3
     rw [List.getElem?_range' h1] at hy
     exact ⟨by omega, by simpa using hy.symm⟩
    obtain ⟨g1, g2⟩ := hG
    rw [List.filter_cons] at g1
    simp only [List.length_cons] at g2
    have hli2 : decide (((x + 1 + i : Nat) : Int) < (fs.length : Int)) = true := by simp; omega
    have h85 := c85 hA hc h (x := x) (y := x + 1 + i) (by omega) (by omega) hm hfac
    obtain ⟨py, by_, ny, hfy, hd2⟩ := fdo (x + 1 + i) hlt4
    rw [hd1, hd2] at h85
    have ha1 := app1_lst (xs := ac) (enc := pairD) (a := (x, x + 1 + i)) (sz := 2) (bytes := 16) (by omega) (by unfold maxLen; omega) (fun _ => rfl)
    cases hcl : clB c l m x (x + 1 + i)
    ·rw [hcl] at h85 g1
     repeat' (first | ((with_reducible apply nrm); (· simp only [sbe]; rfl)) | ((with_reducible apply u_iteT); (· rfl); (· exact hli2)) | ((with_reducible apply u_iteF); (· rfl); (· exact rfl)) | ((with_reducible apply u_chk); (· rfl)) | ((with_reducible apply u_ld); (· rfl); (· rfl); (· first | exact ld_blk h.acts.1 rfl | exact ld_el hbk (fun _ => rfl) hfy); (· simp only [sbe]; rfl)) | ((with_reducible apply u_eaddr); (· rfl); (· rfl); (· exact eaddr_sl hlt4); (· simp only [sbe]; rfl)) | ((with_reducible apply u_lenL); (· rfl); (· exact h.files.len); (· simp only [sbe]; rfl)) | ((with_reducible apply u_inc); (· rfl); (· omega); (· simp only [sbe]; rfl)) | ((with_reducible apply u_ev); (· rfl); (· simp only [sbe]; rfl)) | ((with_reducible apply u_call); (· rfl); (· rfl); (· exact h85); (· rfl); (· simp only [sbe]; rfl)) | (with_reducible refine u_join ?_) | ((with_reducible apply u_jump); (· rfl); (· rfl)) | (with_reducible refine at_jump ?_) | (with_reducible refine kj rfl ?_))
     exact hR ac ⟨g1, by omega⟩
    ·rw [hcl] at h85 g1
     repeat' (first | ((with_reducible apply nrm); (· simp only [sbe]; rfl)) | ((with_reducible apply u_iteT); (· rfl); (· first | exact hli2 | exact rfl)) | ((with_reducible apply u_chk); (· rfl)) | ((with_reducible apply u_ld); (· rfl); (· rfl); (· first | exact ld_blk h.acts.1 rfl | exact ld_el hbk (fun _ => rfl) hfy); (· simp only [sbe]; rfl)) | ((with_reducible apply u_eaddr); (· rfl); (· rfl); (· exact eaddr_sl hlt4); (· simp only [sbe]; rfl)) | ((with_reducible apply u_lenL); (· rfl); (· exact h.files.len); (· simp only [sbe]; rfl)) | ((with_reducible apply u_app); (· rfl); (· rfl); (· exact ha1); (· simp only [sbe]; rfl)) | ((with_reducible apply u_inc); (· rfl); (· omega); (· simp only [sbe]; rfl)) | ((with_reducible apply u_ev); (· rfl); (· simp only [sbe]; rfl)) | ((with_reducible apply u_call); (· rfl); (· rfl); (· exact h85); (· rfl); (· simp only [sbe]; rfl)) | (with_reducible refine u_join ?_) | ((with_reducible apply u_jump); (· rfl); (· rfl)) | (with_reducible refine at_jump ?_) | (with_reducible refine kj rfl ?_))
     exact hR (ac ++ [(x, x + 1 + i)]) ⟨by rw [← g1]; simp, by rw [List.length_append, List.length_cons, List.length_nil]; omega⟩
   ·obtain ⟨g1, g2⟩ := hG
    simp only [List.filter_nil, List.map_nil, List.append_nil] at g1
    subst g1
    have e : x + 1 + (List.range' (x + 1) (fs.length - (x + 1))).length = fs.length := by simp; omega
    rw [e]
    have hli2 : decide ((fs.length : Int) < (fs.length : Int)) = false := by simp
    repeat' (first | ((with_reducible apply nrm); (· simp only [sbe]; rfl)) | ((with_reducible apply u_iteF); (· rfl); (· exact hli2)) | ((with_reducible apply u_chk); (· rfl)) | ((with_reducible apply u_ld); (· rfl); (· rfl); (· exact ld_blk h.acts.1 rfl); (· simp only [sbe]; rfl)) | ((with_reducible apply u_lenL); (· rfl); (· exact h.files.len); (· simp only [sbe]; rfl)) | ((with_reducible apply u_ev); (· rfl); (· simp only [sbe]; rfl)) | ((with_reducible apply u_jump); (· rfl); (· rfl)) | (with_reducible refine at_jump ?_) | (with_reducible refine over_jump (by decide) ?_))
    rfl
  ·refine kj rfl ?_
   repeat' (first | ((with_reducible apply nrm); (· simp only [sbe]; rfl)) | ((with_reducible apply u_inc); (· rfl); (· omega); (· simp only [sbe]; rfl)) | ((with_reducible apply u_jump); (· rfl); (· rfl)) | (with_reducible refine at_jump ?_) | (with_reducible refine kj rfl ?_))
   exact hR _ ⟨f1, by rw [List.length_append]; omega⟩
 ·obtain ⟨f1, f2⟩ := hG
  simp only [List.flatMap_nil, List.append_nil] at f1
  subst f1
  rw [List.length_range]
  have hli : decide ((fs.length : Int) < (fs.length : Int)) = false := by simp
  repeat' (first | ((with_reducible apply nrm); (· simp only [sbe]; rfl)) | ((with_reducible apply u_iteF); (· rfl); (· exact hli)) | ((with_reducible apply u_ev); (· rfl); (· simp only [sbe]; rfl)) | ((with_reducible apply u_jump); (· rfl); (· rfl)) | (with_reducible refine at_jump ?_) | (with_reducible refine over_jump (by decide) ?_) | (with_reducible refine kj rfl ?_) | (with_reducible exact u_ret rfl rfl))

theorem lexlt {xs : List Art} (h : ∀ i, i < xs.length → okAt xs i = true) : ∀ (k i : Nat) (a b : Art), xs[i]? = some a → xs[i + k + 1]? = some b → a.n < b.n ∨ (a.n = b.n ∧ a.f < b.f)
 | k, i, a, b, ha, hb => by
  have one : ∀ (i : Nat) (a b : Art), xs[i]? = some a → xs[i + 1]? = some b → a.n < b.n ∨ (a.n = b.n ∧ a.f < b.f) := fun i a b ha hb => by
   have := h (i + 1) (List.getElem?_eq_some_iff.1 hb).1
   unfold okAt at this
   rw [hb] at this
   simp only [ha] at this
   simp only [Bool.and_eq_true, Bool.not_eq_true', pairBad, Bool.or_eq_false_iff, Bool.and_eq_false_iff, decide_eq_false_iff_not] at this
   omega
  match k with
  | 0 => exact one i a b ha hb
  | k + 1 =>
   have hl := (List.getElem?_eq_some_iff.1 hb).1
   obtain ⟨d, hd⟩ : ∃ d, xs[i + k + 1]? = some d := ⟨_, List.getElem?_eq_getElem (by omega)⟩
   have h1 := lexlt h k i a d ha hd
   have h2 := one (i + k + 1) d b hd hb
   omega

theorem ver_inj (ho : okCode c = true) {n1 m1 n2 m2 : Int} {a b : Art} {i k : Nat} (h1 : ver c.arts n1 m1 c.arts.length = i) (ha : c.arts[i]? = some a) (h2 : ver c.arts n2 m2 c.arts.length = k) (hb : c.arts[k]? = some b) : decide (i = k) = (a.n == b.n && (a.f == b.f && (a.l == b.l && a.m == b.m))) := by
 have hok : ∀ i, i < c.arts.length → okAt c.arts i = true := by
  unfold okCode at ho
  simp only [Bool.and_eq_true, List.all_eq_true, List.mem_range] at ho
  exact ho.2
 rcases Nat.lt_trichotomy i k with h | h | h
 ·obtain ⟨d, rfl⟩ : ∃ d, k = i + d + 1 := ⟨k - i - 1, by omega⟩
  have := lexlt hok d i a b ha hb
  rw [decide_eq_false (by omega)]
  symm
  rw [Bool.eq_false_iff]
  intro hh
  simp only [Bool.and_eq_true, beq_iff_eq] at hh
  omega
 ·subst h
  rw [ha] at hb
  cases hb
  simp
 ·obtain ⟨d, rfl⟩ : ∃ d, i = k + d + 1 := ⟨i - k - 1, by omega⟩
  have := lexlt hok d k b a hb ha
  rw [decide_eq_false (by omega)]
  symm
  rw [Bool.eq_false_iff]
  intro hh
  simp only [Bool.and_eq_true, beq_iff_eq] at hh
  omega

theorem c48 (ho : okCode c = true) (hA : Acc c l) {m : Int} (hr : inR m 0 10000000 = true) (hfac : Fac l) : FSpecR Try.prog 48 (.st bs) [c.d, Rec l, I m] (.lst ((disp c l m).map pairD)) := by
 have hI := inv_of l hA
 have hc := codOk_of ho
 have hca := hc.arts
 have hlen := hI.len
 have hL : l.length ≤ 1000000 := by omega
 have hpl : (pro l).length ≤ l.length := by unfold pro; have := prot_len l l.length; omega
 have hm := minE hr
 have hb : i64 m := ⟨by omega, by omega⟩
 have hmM : m ≤ MM := by unfold MM; omega
 have hpe : (prot l l.length).length = (pro l).length := rfl
 refine ku48.R rfl rfl ?_
 unfold u48
 simp only [ups_cons, ups_nil, List.cons_append, List.nil_append]
 repeat' (first | ((with_reducible apply u_chk); (· rfl)) | ((with_reducible apply u_call); (· rfl); (· rfl); (· exact c27 hL); (· rfl); (· simp only [sbe]; rfl)) | (with_reducible refine u_join ?_))
 refine u_list (List.range (pro l).length) (fun (acc : List (Nat × Nat)) i => [.lst (acc.map pairD), I i]) (fun r acc => acc ++ r.flatMap (rowD (clB c l m) (pro l).length) = disp c l m ∧ acc.length + 2000 * r.length ≤ 4000000) [] rfl (fun _ _ => rfl) ⟨rfl, by simp; omega⟩ (fun i x acc hx hlt hG R hR => ?_) (fun acc hG R => ?_)
 ·obtain ⟨hlt2, rfl⟩ : i < (pro l).length ∧ x = i := by
   rw [List.getElem?_range (by simpa using hlt)] at hx
   exact ⟨by simpa using hlt, by simpa using hx.symm⟩
  obtain ⟨f1, f2⟩ := hG
  rw [List.flatMap_cons, ← List.append_assoc] at f1
  simp only [List.length_cons] at f2
  have hli : decide ((x : Int) < ((prot l l.length).length : Int)) = true := by rw [hpe]; simp; omega
  have hrl := rowD_len (clB c l m) (pro l).length x
  have hpx := pk_eaddr (l := l) (k := (x : Int)) (by omega) (by omega)
  have h33x := c33 (bs := bs) (c := c) hL hI.mins (x : Int) m hb
  have h78x := c78 (bs := bs) hI (x : Int) m hb hmM
  have hvx := ver_of hA (List.getElem?_eq_getElem hlt2)
  have hkx : pk l (x : Int) = (pro l)[x] := by unfold pk; simp [hlt2]
  rw [← hkx] at hvx
  have h40x := c40 (bs := bs) c (nth l (pk l x)).article (nth l (pk l x)).at_ (by omega)
  rcases ver_spec c.arts (nth l (pk l x)).article (nth l (pk l x)).at_ c.arts.length with ⟨h1, _⟩ | ⟨jx, ax, v1, v2, v3⟩
  ·omega
  rw [v3] at h40x
  simp only [Option.getD_some, Option.isSome_some] at h40x
  have hfx : (nth l (pk l x)).facts.length ≤ 1000000000 := by
   have hlt5 : pk l (x : Int) < l.length := by rw [hkx]; exact prot_lt l l.length _ (List.getElem_mem _)
   have := hfac (nth l (pk l x)) (by rw [nth_get hlt5]; exact List.getElem_mem _)
   omega
  repeat' (first | ((with_reducible apply nrm); (· simp only [sbe]; rfl)) | ((with_reducible apply u_iteT); (· rfl); (· exact hli)) | ((with_reducible apply u_lenL); (· rfl); (· exact lenL_map); (· simp only [sbe]; rfl)) | ((with_reducible apply u_inc); (· rfl); (· omega); (· simp only [sbe]; rfl)) | ((with_reducible apply u_ev); (· rfl); (· simp only [sbe]; rfl)) | (with_reducible refine u_join ?_))
  refine loop_exit [.lst ((acc ++ rowD (clB c l m) (pro l).length x).map pairD), I (pro l).length, I (pro l).length, I (prot l l.length).length, B (decide (((pro l).length : Int) < ((prot l l.length).length : Int)))] ?_ ?_
  ·refine u_list (List.range' (x + 1) ((pro l).length - (x + 1))) (fun (ac : List (Nat × Nat)) i => [.lst (ac.map pairD), I ((x + 1 + i : Nat) : Int)]) (fun r ac => ac ++ (r.filter (clB c l m x)).map (fun y => (x, y)) = acc ++ rowD (clB c l m) (pro l).length x ∧ ac.length + r.length ≤ 4000000) acc rfl (fun _ _ => rfl) ⟨rfl, by simp; omega⟩ (fun i y ac hy hlt3 hG R hR => ?_) (fun ac hG R => ?_)
   ·obtain ⟨y, hlt4, rfl, ey⟩ : ∃ z, z < (pro l).length ∧ y = z ∧ x + 1 + i = z := by
     have h1 : i < (pro l).length - (x + 1) := by simpa using hlt3
     rw [List.getElem?_range' h1] at hy
     exact ⟨x + 1 + i, by omega, by simpa using hy.symm, rfl⟩
    obtain ⟨g1, g2⟩ := hG
    simp only [show x + 1 + (i + 1) = y + 1 by omega] at hR
    rw [List.filter_cons] at g1
    simp only [List.length_cons] at g2
    rw [ey]
    have hli2 : decide ((y : Int) < ((prot l l.length).length : Int)) = true := by rw [hpe]; simp; omega
    have ha1 := app1_lst (xs := ac) (enc := pairD) (a := (x, y)) (sz := 2) (bytes := 16) (by omega) (by unfold maxLen; omega) (fun _ => rfl)
    have hpy := pk_eaddr (l := l) (k := (y : Int)) (by omega) (by omega)
    have h33y := c33 (bs := bs) (c := c) hL hI.mins (y : Int) m hb
    have h78y := c78 (bs := bs) hI (y : Int) m hb hmM
    have hvy := ver_of hA (List.getElem?_eq_getElem hlt4)
    have hky : pk l (y : Int) = (pro l)[y] := by unfold pk; simp [hlt4]
    rw [← hky] at hvy
    have h40y := c40 (bs := bs) c (nth l (pk l y)).article (nth l (pk l y)).at_ (by omega)
    rcases ver_spec c.arts (nth l (pk l y)).article (nth l (pk l y)).at_ c.arts.length with ⟨h1, _⟩ | ⟨jy, ay, w1, w2, w3⟩
    ·omega
    rw [w3] at h40y
    simp only [Option.getD_some, Option.isSome_some] at h40y
    have h19 := c19 (bs := bs) (nth l (pk l x)).facts (nth l (pk l y)).facts hfx
    have hvi := ver_inj ho v1 v2 w1 w2
    by_cases H : rState c l x m = 5 ∧ rState c l y m = 5
    ·rw [H.1] at h33x
     rw [H.2] at h33y
     have hcl : clB c l m x y = (((ax.n == ay.n && (ax.f == ay.f && (ax.l == ay.l && (ax.m == ay.m && true)))) && decide ((nth l (pk l x)).facts = (nth l (pk l y)).facts)) && ((fB c l x m != fB c l y m) || (fB c l x m && (fP c l x m != fP c l y m)))) := by
      unfold clB verK
      have hj : decide ((jx : Int) = (jy : Int)) = decide (jx = jy) := decide_eq_decide.2 Int.ofNat_inj
      rw [decide_eq_true H, v1, w1, Bool.and_true, ← hvi, Bool.true_and, Bool.decide_and, hj]
     cases hh : clB c l m x y
     ·rw [hh] at hcl g1
      repeat' (first | ((with_reducible apply nrm); (· simp only [sbe]; rfl)) | ((with_reducible apply u_iteT); (· rfl); (· exact hli2)) | ((with_reducible apply u_iteF); (· rfl); (· first | exact rfl | exact hcl.symm)) | ((with_reducible apply u_chk); (· rfl)) | ((with_reducible apply u_eaddr); (· rfl); (· rfl); (· first | exact hpx.1 | exact hpx.2 | exact hpy.1 | exact hpy.2); (· simp only [sbe]; rfl)) | ((with_reducible apply u_lenL); (· rfl); (· exact lenL_map); (· simp only [sbe]; rfl)) | ((with_reducible apply u_inc); (· rfl); (· omega); (· simp only [sbe]; rfl)) | ((with_reducible apply u_ev); (· rfl); (· simp only [sbe]; rfl)) | ((with_reducible apply u_call); (· rfl); (· rfl); (· first | exact h33x | exact h33y | exact h78x | exact h78y | exact h40x | exact h40y | exact h19); (· rfl); (· simp only [sbe]; rfl)) | ((with_reducible apply u_or); (· rfl)) | ((with_reducible apply u_and); (· rfl)) | (with_reducible refine u_join ?_) | ((with_reducible apply u_jump); (· rfl); (· rfl)) | (with_reducible refine at_jump ?_) | (with_reducible refine kj rfl ?_) | (with_reducible exact u_ret rfl rfl) | ((with_reducible intro hz); (try simp only [sbs] at hz)))
      exact hR ac ⟨g1, by omega⟩
     ·rw [hh] at hcl g1
      repeat' (first | ((with_reducible apply nrm); (· simp only [sbe]; rfl)) | ((with_reducible apply u_iteT); (· rfl); (· first | exact hli2 | exact hcl.symm)) | ((with_reducible apply u_iteF); (· rfl); (· exact rfl)) | ((with_reducible apply u_chk); (· rfl)) | ((with_reducible apply u_eaddr); (· rfl); (· rfl); (· first | exact hpx.1 | exact hpx.2 | exact hpy.1 | exact hpy.2); (· simp only [sbe]; rfl)) | ((with_reducible apply u_app); (· rfl); (· rfl); (· exact ha1); (· simp only [sbe]; rfl)) | ((with_reducible apply u_lenL); (· rfl); (· exact lenL_map); (· simp only [sbe]; rfl)) | ((with_reducible apply u_inc); (· rfl); (· omega); (· simp only [sbe]; rfl)) | ((with_reducible apply u_ev); (· rfl); (· simp only [sbe]; rfl)) | ((with_reducible apply u_call); (· rfl); (· rfl); (· first | exact h33x | exact h33y | exact h78x | exact h78y | exact h40x | exact h40y | exact h19); (· rfl); (· simp only [sbe]; rfl)) | ((with_reducible apply u_or); (· rfl)) | ((with_reducible apply u_and); (· rfl)) | (with_reducible refine u_join ?_) | ((with_reducible apply u_jump); (· rfl); (· rfl)) | (with_reducible refine at_jump ?_) | (with_reducible refine kj rfl ?_) | (with_reducible exact u_ret rfl rfl) | ((with_reducible intro hz); (try simp only [sbs] at hz)))
      exact hR (ac ++ [(x, y)]) ⟨by rw [← g1]; simp, by rw [List.length_append, List.length_cons, List.length_nil]; omega⟩
    ·have hcl : clB c l m x y = false := by unfold clB; rw [decide_eq_false H, Bool.false_and]
     rw [hcl] at g1
     have ht : ((rState c l x m != 5) || (rState c l y m != 5)) = true := by
      simp
      by_cases e : rState c l x m = 5
      ·exact .inr fun e2 => H ⟨e, e2⟩
      ·exact .inl e
     repeat' (first | ((with_reducible apply nrm); (· simp only [sbe]; rfl)) | ((with_reducible apply u_iteT); (· rfl); (· first | exact hli2 | exact ht)) | ((with_reducible apply u_lenL); (· rfl); (· exact lenL_map); (· simp only [sbe]; rfl)) | ((with_reducible apply u_inc); (· rfl); (· omega); (· simp only [sbe]; rfl)) | ((with_reducible apply u_ev); (· rfl); (· simp only [sbe]; rfl)) | ((with_reducible apply u_call); (· rfl); (· rfl); (· first | exact h33x | exact h33y); (· rfl); (· simp only [sbe]; rfl)) | ((with_reducible apply u_or); (· rfl)) | (with_reducible refine u_join ?_) | ((with_reducible apply u_jump); (· rfl); (· rfl)) | (with_reducible refine at_jump ?_) | (with_reducible refine kj rfl ?_) | (with_reducible exact u_ret rfl rfl) | ((with_reducible intro hz); (try simp only [sbs] at hz)))
     exact hR ac ⟨g1, by omega⟩
   ·obtain ⟨g1, g2⟩ := hG
    simp only [List.filter_nil, List.map_nil, List.append_nil] at g1
    subst g1
    have e : x + 1 + (List.range' (x + 1) ((pro l).length - (x + 1))).length = (pro l).length := by simp; omega
    rw [e]
    have hli2 : decide (((pro l).length : Int) < ((prot l l.length).length : Int)) = false := by rw [hpe]; simp
    repeat' (first | ((with_reducible apply nrm); (· simp only [sbe]; rfl)) | ((with_reducible apply u_iteF); (· rfl); (· exact hli2)) | ((with_reducible apply u_lenL); (· rfl); (· exact lenL_map); (· simp only [sbe]; rfl)) | ((with_reducible apply u_ev); (· rfl); (· simp only [sbe]; rfl)) | ((with_reducible apply u_jump); (· rfl); (· rfl)) | (with_reducible refine at_jump ?_) | (with_reducible refine over_jump (by decide) ?_))
    rfl
  ·refine kj rfl ?_
   repeat' (first | ((with_reducible apply nrm); (· simp only [sbe]; rfl)) | ((with_reducible apply u_inc); (· rfl); (· omega); (· simp only [sbe]; rfl)) | ((with_reducible apply u_jump); (· rfl); (· rfl)) | (with_reducible refine at_jump ?_) | (with_reducible refine kj rfl ?_))
   exact hR _ ⟨f1, by rw [List.length_append]; omega⟩
 ·obtain ⟨f1, f2⟩ := hG
  simp only [List.flatMap_nil, List.append_nil] at f1
  subst f1
  rw [List.length_range]
  have hli : decide (((pro l).length : Int) < ((prot l l.length).length : Int)) = false := by rw [hpe]; simp
  repeat' (first | ((with_reducible apply nrm); (· simp only [sbe]; rfl)) | ((with_reducible apply u_iteF); (· rfl); (· exact hli)) | ((with_reducible apply u_lenL); (· rfl); (· exact lenL_map); (· simp only [sbe]; rfl)) | ((with_reducible apply u_ev); (· rfl); (· simp only [sbe]; rfl)) | ((with_reducible apply u_jump); (· rfl); (· rfl)) | (with_reducible refine at_jump ?_) | (with_reducible refine over_jump (by decide) ?_) | (with_reducible refine kj rfl ?_) | (with_reducible exact u_ret rfl rfl))

end Go.Am.Ct

/-
 The court's Penalty: the walk.
-/
namespace Go.Am.Ct
open Go.Proofs Go.Am.Ap
set_option maxRecDepth 100000
set_option maxHeartbeats 4000000

variable {bs : List D} {j : Nat} {c : Cod} {l : List Akt} {a : Akt} {F : Nat → Prop}

attribute [local irreducible] inR

theorem ysto_noyl (hn : noyls bs = true) (m : Int) (p : Bool) (i : Nat) : noyls (ysto bs c m l p i) = true := by
 unfold ysto
 rw [noyls_app, hn, Bool.true_and]
 refine noyls_all fun d hd => ?_
 rcases List.mem_cons.1 hd with rfl | hd
 ·simp [D.noyl, noyls]
 ·obtain ⟨x, _, rfl⟩ := List.mem_map.1 hd
  simpa [D.noyl] using akt_noyl x

end Go.Am.Ct

/-
 The law on states and penalties.
-/
namespace Go.Am.Ct
open Go.Proofs Go.Am.Ap
set_option maxRecDepth 100000
set_option maxHeartbeats 4000000

variable {c : Cod} {l : List Akt}

attribute [local irreducible] inR

theorem right_pen (c : Cod) (car m : Int) : rightB c car m = penB c car m := by
 unfold rightB penB inR
 simp [Bool.and_assoc]

end Go.Am.Ct

/-
 The law on clashes.
-/
namespace Go.Am.Ct
open Go.Proofs Go.Am.Ap
set_option maxRecDepth 100000
set_option maxHeartbeats 4000000

variable {c : Cod} {l : List Akt}

attribute [local irreducible] inR

theorem c11 (c : Cod) (l : List Akt) (m : Int) : ∃ h', FSpecWO Try.prog 11 (.st []) [c.d, Rec l, I m] (.ret (B true)) h' := by
 have k21 := c21 (bs := []) c
 obtain ⟨b22, k22, hb22⟩ := c22 (bs := []) l
 have k23 := c23 (bs := []) c
 have k16 := known_spec []
 cases hB : ((!(decide ((c.arts.length : Int) ≤ 20) || (decide (500 < (c.arts.length : Int)) && decide ((c.arts.length : Int) < 600)))) || (!b22)) || (!okCode c)
 rotate_left
 ·refine ⟨.st [], ku11.writeO rfl ?_⟩
  unfold u11
  simp only [ups_cons, ups_nil, List.cons_append, List.nil_append]
  repeat' (first | ((with_reducible apply nrm); (· simp only [sbe]; rfl)) | ((with_reducible apply u_iteT); (· rfl); (· exact hB)) | ((with_reducible apply u_chk); (· rfl)) | ((with_reducible apply u_ev); (· rfl); (· simp only [sbe]; rfl)) | ((with_reducible apply u_call); (· rfl); (· rfl); (· first | exact k21 | exact k22 | exact k23 | exact k16); (· rfl); (· simp only [sbe]; rfl)) | ((with_reducible apply u_or); (· rfl)) | (with_reducible exact u_ret rfl rfl) | ((with_reducible apply u_ret); (· rfl); first | exact rfl | (refine retB ?_) | (refine retI ?_) | (refine retD ?_)) | ((with_reducible intro hz); (try simp only [sbs] at hz)))
 ·have hB2 := hB
  simp only [Bool.or_eq_false_iff, Bool.not_eq_false'] at hB2
  obtain ⟨⟨_, h2⟩, h3⟩ := hB2
  obtain ⟨hl, hfa⟩ := hb22 h2
  have hc := codOk_of h3
  have hF : Fac l := fun a ha => by have := hfa a ha; omega
  have k30 := c30 (bs := []) h3 (by omega) hF
  obtain ⟨s, hs⟩ : ∃ s, s = crt (codOk_of h3) [] l := ⟨_, rfl⟩
  have hsl : s.l = rec c l := by rw [hs]; exact crt_l _ _ hF
  rw [← hs, ← hsl] at k30
  obtain ⟨sa, sf, fs, hcrt⟩ := s.crt
  have hI := inv_of _ s.acc
  have hlen := hI.len
  have kk := fun bs => known_spec bs
  refine ⟨.st s.bs, ku11.writeO rfl ?_⟩
  unfold u11
  simp only [ups_cons, ups_nil, List.cons_append, List.nil_append]
  cases hr : inR m 0 10000000
  ·have k47 := c47no hc hcrt.acts m hr
   have hmf : (decide (m < 0) || decide (m > 10000000)) = true := by
    unfold inR at hr
    simp at hr ⊢
    omega
   repeat' (first | ((with_reducible apply nrm); (· simp only [sbe]; rfl)) | ((with_reducible apply u_iteT); (· rfl); (· exact hmf)) | ((with_reducible apply u_iteF); (· rfl); (· first | exact hB | exact rfl)) | ((with_reducible apply u_chk); (· rfl)) | ((with_reducible apply u_ev); (· rfl); (· simp only [sbe]; rfl)) | ((with_reducible apply u_call); (· rfl); (· rfl); (· first | exact k21 | exact k22 | exact k23 | exact k47 | exact kk _); (· rfl); (· simp only [sbe]; rfl)) | ((with_reducible apply u_wcall); (· rfl); (· rfl); (· exact k30); (· rfl); (· simp only [sbe]; rfl)) | ((with_reducible apply u_or); (· rfl)) | ((with_reducible apply u_and); (· rfl)) | (with_reducible exact u_ret rfl rfl) | ((with_reducible apply u_ret); (· rfl); first | exact rfl | (refine retB ?_) | (refine retI ?_) | (refine retD ?_)) | ((with_reducible intro hz); (try simp only [sbs] at hz)))
  ·have k47 := c47 s.acc hc hcrt hr s.fac
   have k48 := fun bs => c48 (bs := bs) h3 s.acc hr s.fac
   have hmb := minE hr
   have hdl := disp_len c m hlen
   have hmf : (decide (m < 0) || decide (m > 10000000)) = false := by
    simp
    omega
   have hv : ((0 : Int) != 0 || (((disp c s.l m).length : Int) != ((disp c s.l m).length : Int))) = false := by simp
   repeat' (first | ((with_reducible apply nrm); (· simp only [sbe]; rfl)) | ((with_reducible apply u_iteF); (· rfl); (· first | exact hB | exact rfl | exact hmf | exact hv)) | ((with_reducible apply u_chk); (· rfl)) | ((with_reducible apply u_lenL); (· rfl); (· exact lenL_map); (· simp only [sbe]; rfl)) | ((with_reducible apply u_ev); (· rfl); (· simp only [sbe]; rfl)) | ((with_reducible apply u_call); (· rfl); (· rfl); (· first | exact k21 | exact k22 | exact k23 | exact k47 | exact k48 _); (· rfl); (· simp only [sbe]; rfl)) | ((with_reducible apply u_wcall); (· rfl); (· rfl); (· exact k30); (· rfl); (· simp only [sbe]; rfl)) | ((with_reducible apply u_or); (· rfl)) | (with_reducible refine u_join ?_) | (with_reducible exact u_ret rfl rfl) | ((with_reducible intro hz); (try simp only [sbs] at hz)))
   refine u_range (fun i => [I i]) (fun _ => True) (disp c s.l m).length rfl (fun _ => rfl) trivial (fun i hi _ R hR => ?_) (fun _ R => ?_)
   ·repeat' (first | ((with_reducible apply nrm); (· simp only [sbe]; rfl)) | ((with_reducible apply u_iteF); (· rfl); (· (simp))) | ((with_reducible apply u_eaddr); (· rfl); (· rfl); (· exact eaddr_get hi rfl); (· simp only [sbe]; rfl)) | ((with_reducible apply u_lenL); (· rfl); (· exact lenL_map); (· simp only [sbe]; rfl)) | ((with_reducible apply u_inc); (· rfl); (· omega); (· simp only [sbe]; rfl)) | ((with_reducible apply u_ev); (· rfl); (· simp only [sbe]; rfl)) | (with_reducible refine u_join ?_) | ((with_reducible apply u_jump); (· rfl); (· rfl)) | (with_reducible refine at_jump ?_) | (with_reducible refine kj rfl ?_) | ((with_reducible apply u_ite); (· rfl); all_goals (intro hz; (try simp only [sbs] at hz); first | (exact absurd hz (by decide)) | (exfalso; omega) | skip)))
    exact hR trivial
   ·repeat' (first | ((with_reducible apply nrm); (· simp only [sbe]; rfl)) | ((with_reducible apply u_lenL); (· rfl); (· exact lenL_map); (· simp only [sbe]; rfl)) | ((with_reducible apply u_ev); (· rfl); (· simp only [sbe]; rfl)) | ((with_reducible apply u_call); (· rfl); (· rfl); (· exact kk _); (· rfl); (· simp only [sbe]; rfl)) | ((with_reducible apply u_jump); (· rfl); (· rfl)) | (with_reducible refine at_jump ?_) | (with_reducible refine over_jump (by decide) ?_) | (with_reducible refine kj rfl ?_) | ((with_reducible apply u_ite); (· rfl); all_goals (intro hz; (try simp only [sbs] at hz); first | (exact absurd hz (by decide)) | (exfalso; omega) | skip)) | ((with_reducible apply u_ret); (· rfl); first | exact rfl | (refine retB ?_) | (refine retI ?_) | (refine retD ?_)))

end Go.Am.Ct

/-
 Arguments of laws.
-/
namespace Go.Am.Ct
open Go.Am.Ap

theorem argInt {x : D} (h : ArgSh (.int .i64) x) : ∃ n, x = I n ∧ Ap.i64 n := by
 obtain ⟨n, hn, hb⟩ := ofI (h.2 rfl)
 cases hn
 exact ⟨n, rfl, hb⟩

def ActsOk (l : List Akt) : Prop := (∀ a, a ∈ l → a.Ok) ∧ l.length ≤ maxLen

theorem ofActs : ∀ {es : List D}, (∀ x, x ∈ es → ∃ cs, x = .agg cs ∧ OfSh shAct cs) → ∃ xs : List Akt, es = xs.map Akt.d ∧ ∀ a, a ∈ xs → a.Ok
 | [], _ => ⟨[], rfl, by simp⟩
 | e :: es, h => by
  obtain ⟨cs, rfl, h1⟩ := h e (by simp)
  obtain ⟨a, ha, ho⟩ := ofAct h1
  obtain ⟨xs, rfl, hx⟩ := ofActs (es := es) fun x hx => h x (by simp [hx])
  exact ⟨a :: xs, by rw [ha]; rfl, by simpa using ⟨ho, hx⟩⟩

theorem argActs {x : D} (h : ArgSh (.sl shAct) x) : ∃ l : List Akt, x = Rec l ∧ ActsOk l := by
 have h := h.2 rfl
 simp only [OfSh] at h
 obtain ⟨es, hx, hl, hes⟩ := h
 cases hx
 obtain ⟨xs, rfl, ho⟩ := ofActs fun x hx => (hes x hx).1 rfl
 exact ⟨xs, rfl, ho, by simpa using hl⟩

theorem ofArt {cs : List D} (h : OfSh shArt cs) : ∃ a : Art, .agg cs = a.d ∧ a.Ok := by
 simp only [shArt, OfSh, OfAll] at h
 have cv : ∀ {ds : List D}, (∃ n : Int, ds = [.v (.int .i64 n)] ∧ IntKind.i64.min ≤ n ∧ n ≤ IntKind.i64.max) → ∃ n, ds = [I n] ∧ Ap.i64 n := fun h => ofI (by simpa only [OfSh] using h)
 obtain ⟨_, _, rfl, h1, _, _, rfl, h2, _, _, rfl, h3, _, _, rfl, h4, rfl⟩ := h
 obtain ⟨n, rfl, b1⟩ := cv h1
 obtain ⟨f, rfl, b2⟩ := cv h2
 obtain ⟨l, rfl, b3⟩ := cv h3
 obtain ⟨m, rfl, b4⟩ := cv h4
 exact ⟨⟨n, f, l, m⟩, rfl, b1, b2, b3, b4⟩

theorem ofArts : ∀ {es : List D}, (∀ x, x ∈ es → ∃ cs, x = .agg cs ∧ OfSh shArt cs) → ∃ xs : List Art, es = xs.map Art.d ∧ ∀ a, a ∈ xs → a.Ok
 | [], _ => ⟨[], rfl, by simp⟩
 | e :: es, h => by
  obtain ⟨cs, rfl, h1⟩ := h e (by simp)
  obtain ⟨a, ha, ho⟩ := ofArt h1
  obtain ⟨xs, rfl, hx⟩ := ofArts (es := es) fun x hx => h x (by simp [hx])
  exact ⟨a :: xs, by rw [ha]; rfl, by simpa using ⟨ho, hx⟩⟩

theorem argCode {x : D} (h : ArgSh shCode x) : ∃ c : Cod, x = c.d ∧ c.Ok := by
 obtain ⟨cs, rfl, hh⟩ := h.1 rfl
 simp only [shCode, OfSh, OfAll] at hh
 have cv : ∀ {ds : List D}, (∃ n : Int, ds = [.v (.int .i64 n)] ∧ IntKind.i64.min ≤ n ∧ n ≤ IntKind.i64.max) → ∃ n, ds = [I n] ∧ Ap.i64 n := fun h => ofI (by simpa only [OfSh] using h)
 obtain ⟨_, _, rfl, h1, _, _, rfl, ⟨es, rfl, hl, hes⟩, _, _, rfl, h3, _, _, rfl, h4, _, _, rfl, h5, _, _, rfl, h6, rfl⟩ := hh
 obtain ⟨a, rfl, b1⟩ := cv h1
 obtain ⟨w, rfl, b3⟩ := cv h3
 obtain ⟨s, rfl, b4⟩ := cv h4
 obtain ⟨f, rfl, b5⟩ := cv h5
 obtain ⟨p, rfl, b6⟩ := cv h6
 obtain ⟨xs, rfl, hx⟩ := ofArts fun x hx => (hes x hx).1 rfl
 exact ⟨⟨a, xs, w, s, f, p⟩, rfl, b1, b3, b4, b5, b6, hx, by simpa using hl⟩

end Go.Am.Ct
