/-
  Several texts, one behind the other.
-/
import Derived.Test.YtnenlnmfoocpdaaApCourt5toApDo
import Derived.Test.YtnenlnmfoocpdaaAmKill
import Derived.Test.YtnenlnmfoocpdaaApU4toApCourt4
set_option linter.unusedSimpArgs false
set_option linter.unusedVariables false
/-
 A court's blocks hold no loop's round.
-/
namespace Go.Am.Ct
open Go.Proofs Go.Am.Ap

variable {bs : List D} {j : Nat} {c : Cod} {l : List Akt} {a : Akt} {F : Nat → Prop}

theorem noyls_app : ∀ {a b : List D}, noyls (a ++ b) = (noyls a && noyls b)
 | [], b => by simp [noyls]
 | x :: r, b => by simp [noyls, noyls_app (a := r), Bool.and_assoc]

theorem noyls_all : ∀ {ds : List D}, (∀ d, d ∈ ds → d.noyl = true) → noyls ds = true
 | [], _ => by simp [noyls]
 | x :: r, h => by simp [noyls, h x (by simp), noyls_all (ds := r) fun d hd => h d (by simp [hd])]

theorem noyls_map {α : Type} {f : α → D} {xs : List α} (h : ∀ x, x ∈ xs → (f x).noyl = true) : noyls (xs.map f) = true :=
 noyls_all fun d hd => by
  obtain ⟨x, hx, rfl⟩ := List.mem_map.1 hd
  exact h x hx

theorem noyls_flat {α : Type} {f : α → List D} {xs : List α} (h : ∀ x, x ∈ xs → noyls (f x) = true) : noyls (xs.flatMap f) = true := by
 induction xs with
 | nil => simp [noyls]
 | cons x r ih => rw [List.flatMap_cons, noyls_app, h x (by simp), ih fun y hy => h y (by simp [hy])]; rfl

theorem akt_noyl (a : Akt) : noyls a.cs = true := by
 simp [Akt.cs, noyls, D.noyl]
 exact noyls_map fun x _ => rfl

theorem _root_.Go.Am.SlOf.noyl {α : Type} {e : TypeId} {sz : Nat} {enc : α → List D} {s : D} {xs : List α} (h : SlOf bs e sz enc s xs) : s.noyl = true := by
 rcases h with ⟨_, rfl⟩ | ⟨i, rfl, _⟩ <;> rfl

theorem _root_.Go.Am.SlOf.kill {α : Type} {e : TypeId} {sz : Nat} {enc : α → List D} {s : D} {xs : List α} (h : SlOf bs e sz enc s xs) (hn : ∀ x, x ∈ xs → noyls (enc x) = true) : SlOf (kill bs) e sz enc s xs := by
 rcases h with h | ⟨i, rfl, h⟩
 ·exact .inl h
 ·exact .inr ⟨i, rfl, kill_get h (by simpa [D.noyl] using noyls_flat hn)⟩

theorem crtCells_noyl {sa sf : D} (ha : sa.noyl = true) (hf : sf.noyl = true) : noyls (crtCells c sa sf) = true := by
 have : noyls (c.arts.map Art.d) = true := noyls_map fun x _ => by simp [Art.d, D.noyl, noyls]
 simp [crtCells, noyls, D.noyl, ha, hf, this]

theorem ActsAt.kill {sa sf : D} (h : ActsAt bs j c l sa sf) (hf : sf.noyl = true) : ActsAt (kill bs) j c l sa sf :=
 ⟨kill_get h.1 (by simpa [D.noyl] using crtCells_noyl h.2.noyl hf), h.2.kill fun x _ => akt_noyl x⟩

theorem Crt.kill {q : List (Nat × List Nat)} {sa sf : D} {fs : List (Int × D)} (h : Crt bs F j c l q sa sf fs) : Crt (kill bs) F j c l q sa sf fs where
 acts := h.acts.kill h.files.noyl
 files := h.files.kill fun f hf => by
  obtain ⟨k, hk, rfl⟩ := List.mem_iff_getElem.1 hf
  have hkq : k < q.length := by have := h.len; omega
  obtain ⟨s, h1, h2⟩ := h.case k q[k].1 q[k].2 (List.getElem?_eq_getElem hkq)
  rw [List.getElem?_eq_getElem hk, Option.some.injEq] at h1
  rw [h1]
  simp [fcs, noyls, D.noyl, h2.noyl]
 len := h.len
 case := fun k p idx hq => by
  obtain ⟨s, h1, h2⟩ := h.case k p idx hq
  exact ⟨s, h1, h2.kill fun x _ => by simp [ncs, noyls, D.noyl]⟩
 inj := h.inj
 fj := h.fj
 fa := h.fa
 ff := h.ff
 fc := h.fc
 lt := fun k hk => by rw [kill_len]; exact h.lt k hk

theorem Court.kill (h : Court bs F j c l) : Court (kill bs) F j c l := by
 obtain ⟨sa, sf, fs, h⟩ := h
 exact ⟨sa, sf, fs, h.kill⟩

theorem stp_kill {bs' : List D} {F' : Nat → Prop} (hn : noyls bs = true) (h : Stp bs F bs' F') : Stp bs F (Go.Am.kill bs') F' where
 len := by rw [kill_len]; exact h.len
 old := fun k hk hf => by
  have h1 := h.old k hk hf
  rw [List.getElem?_eq_getElem hk] at h1 ⊢
  exact kill_get h1 (noyls_get hn (List.getElem?_eq_getElem hk))
 new := h.new

end Go.Am.Ct

/-
 What the laws on courts share; the law on acts.
-/
namespace Go.Am.Ct
open Go.Proofs Go.Am.Ap
set_option maxRecDepth 100000
set_option maxHeartbeats 4000000

variable {bs : List D} {j : Nat} {c : Cod} {l : List Akt} {a : Akt} {F : Nat → Prop}

attribute [local irreducible] inR

def Fac (l : List Akt) : Prop := ∀ a, a ∈ l → a.facts.length ≤ 1000000

theorem c22 (l : List Akt) : ∃ b, FSpecR Try.prog 22 (.st bs) [Rec l, I 25] (B b) ∧ (b = true → l.length ≤ 25 ∧ ∀ a, a ∈ l → a.facts.length ≤ 25) := by
 by_cases hh : ∀ i (h : i < l.length), i ≤ 25 → l[i].facts.length ≤ 25
 ·refine ⟨decide ((l.length : Int) ≤ 25), ?_, fun h => ?_⟩
  ·refine ku22.R rfl rfl ?_
   unfold u22
   simp only [ups_cons, ups_nil, List.cons_append, List.nil_append]
   repeat' ((with_reducible refine u_join ?_))
   refine u_list l (fun (_ : Unit) i => [I i]) (fun _ _ => True) () rfl (fun _ _ => rfl) trivial (fun i x _ hx hlt _ R hR => ?_) (fun _ _ R => ?_)
   ·have hxi := hh i hlt
    obtain ⟨_, rfl⟩ := List.getElem?_eq_some_iff.1 hx
    repeat' (first | ((with_reducible apply nrm); (· simp only [sbe]; rfl)) | ((with_reducible apply u_chk); (· rfl)) | ((with_reducible apply u_eaddr); (· rfl); (· rfl); (· exact eaddr_get hlt rfl); (· simp only [sbe]; rfl)) | ((with_reducible apply u_lenL); (· rfl); (· exact lenL_map); (· simp only [sbe]; rfl)) | ((with_reducible apply u_inc); (· rfl); (· omega); (· simp only [sbe]; rfl)) | ((with_reducible apply u_ev); (· rfl); (· simp only [sbe]; rfl)) | ((with_reducible apply u_and); (· rfl)) | (with_reducible refine u_join ?_) | ((with_reducible apply u_jump); (· rfl); (· rfl)) | (with_reducible refine at_jump ?_) | (with_reducible refine over_jump (by decide) ?_) | (with_reducible refine kj rfl ?_) | ((with_reducible apply u_ite); (· rfl); all_goals (intro hz; (try simp only [sbs] at hz); first | (exact absurd hz (by decide)) | (exfalso; omega) | skip)) | (with_reducible exact u_ret rfl rfl) | ((with_reducible intro hz); (try simp only [sbs] at hz)))
    exact hR () trivial
   ·repeat' (first | ((with_reducible apply nrm); (· simp only [sbe]; rfl)) | ((with_reducible apply u_lenL); (· rfl); (· exact lenL_map); (· simp only [sbe]; rfl)) | ((with_reducible apply u_ev); (· rfl); (· simp only [sbe]; rfl)) | ((with_reducible apply u_and); (· rfl)) | ((with_reducible apply u_jump); (· rfl); (· rfl)) | (with_reducible refine at_jump ?_) | (with_reducible refine over_jump (by decide) ?_) | (with_reducible refine kj rfl ?_) | ((with_reducible apply u_ite); (· rfl); all_goals (intro hz; (try simp only [sbs] at hz); first | (exact absurd hz (by decide)) | (exfalso; omega) | skip)) | (with_reducible exact u_ret rfl rfl) | ((with_reducible intro hz); (try simp only [sbs] at hz)))
  ·have hl : l.length ≤ 25 := Int.ofNat_le.1 (by simpa using h)
   refine ⟨hl, fun a ha => ?_⟩
   obtain ⟨i, hi, rfl⟩ := List.mem_iff_getElem.1 ha
   exact hh i hi (by omega)
 ·refine ⟨false, ?_, fun h => by cases h⟩
  refine ku22.R rfl rfl ?_
  unfold u22
  simp only [ups_cons, ups_nil, List.cons_append, List.nil_append]
  repeat' ((with_reducible refine u_join ?_))
  refine u_range (fun i => [I i]) (fun i => ∀ k (h : k < i) (h2 : k < l.length), k ≤ 25 → l[k].facts.length ≤ 25) l.length rfl (fun _ => rfl) (fun k h => absurd h (Nat.not_lt_zero _)) (fun i hi hJ R hR => ?_) (fun hJ R => ?_)
  ·repeat' (first | ((with_reducible apply nrm); (· simp only [sbe]; rfl)) | ((with_reducible apply u_chk); (· rfl)) | ((with_reducible apply u_eaddr); (· rfl); (· rfl); (· exact eaddr_get hi rfl); (· simp only [sbe]; rfl)) | ((with_reducible apply u_lenL); (· rfl); (· exact lenL_map); (· simp only [sbe]; rfl)) | ((with_reducible apply u_inc); (· rfl); (· omega); (· simp only [sbe]; rfl)) | ((with_reducible apply u_ev); (· rfl); (· simp only [sbe]; rfl)) | ((with_reducible apply u_and); (· rfl)) | (with_reducible refine u_join ?_) | ((with_reducible apply u_jump); (· rfl); (· rfl)) | (with_reducible refine at_jump ?_) | (with_reducible refine over_jump (by decide) ?_) | (with_reducible refine kj rfl ?_) | ((with_reducible apply u_ite); (· rfl); all_goals (intro hz; (try simp only [sbs] at hz); first | (exact absurd hz (by decide)) | (exfalso; omega) | skip)) | (with_reducible exact u_ret rfl rfl) | ((with_reducible apply u_ret); (· rfl); first | exact rfl | (refine retB ?_) | (refine retI ?_) | (refine retD ?_)) | ((with_reducible intro hz); (try simp only [sbs] at hz)))
   ·refine hR fun k hk h2 h3 => ?_
    rcases Nat.lt_or_ge k i with h4 | h4
    ·exact hJ k h4 h2 h3
    ·have e : k = i := by omega
     subst e
     omega
   ·simp
    omega
  ·exact absurd (fun i h => hJ i h h) hh

def rightB (c : Cod) (car minute : Int) : Bool := decide (1 ≤ car) && decide (car ≤ c.cars) && decide (0 ≤ minute) && decide (minute ≤ 10000000)

theorem c34 (car minute : Int) : FSpecR Try.prog 34 (.st bs) [c.d, I car, I minute] (B (rightB c car minute)) := by
 refine ku34.R rfl rfl ?_
 unfold u34
 simp only [ups_cons, ups_nil, List.cons_append, List.nil_append]
 repeat' (first | ((with_reducible apply nrm); (· simp only [sbe]; rfl)) | ((with_reducible apply u_chk); (· rfl)) | ((with_reducible apply u_ev); (· rfl); (· simp only [sbe]; rfl)) | ((with_reducible apply u_and); (· rfl)) | (with_reducible exact u_ret rfl rfl) | ((with_reducible intro hz); (try simp only [sbs] at hz)))

theorem c24 (ho : okCode c = true) : FSpecW Try.prog 24 (.st bs) [c.d] (.tup [.loc bs.length 0, I 0]) (.st (bs ++ [.blk 99 9 (crtCells c .snil .snil)])) := by
 have hc := codOk_of ho
 have k41 := c41 (bs := bs) c
 rw [ho] at k41
 have k56 := c56 (bs := bs) c.arts (by have := hc.arts; omega)
 refine ku24.W rfl ?_
 unfold u24
 simp only [ups_cons, ups_nil, List.cons_append, List.nil_append]
 repeat' (first | ((with_reducible apply u_iteF); (· rfl); (· exact rfl)) | ((with_reducible apply u_chk); (· rfl)) | ((with_reducible apply u_ev); (· rfl); (· simp only [sbe]; rfl)) | ((with_reducible apply u_call); (· rfl); (· rfl); (· first | exact k41 | exact k56); (· rfl); (· simp only [sbe]; rfl)) | (with_reducible exact u_ret rfl rfl))

theorem open_court (bs : List D) (c : Cod) : Court (bs ++ [.blk 99 9 (crtCells c .snil .snil)]) (fun k => k = bs.length) bs.length c [] :=
 ⟨.snil, .snil, [], ⟨by simp, SlOf.nil⟩, SlOf.nil, rfl, fun k p idx h => (by simp [qOf, pro, prot] at h), fun k k' f f' i h => (by simp at h), rfl, fun i h => (by cases h), fun i h => (by cases h), fun k f i h => (by simp at h), fun k h => (by simp; omega)⟩

theorem acc_nil (c : Cod) : Acc c [] := fun i h => by simp at h

theorem acc_do (h : Acc c l) (a : Akt) : Acc c (doL c l a) := by
 unfold doL
 split
 ·exact acc_snoc.2 ⟨h, by assumption⟩
 ·exact h

theorem fac_do (h : Fac l) (ha : a.facts.length ≤ 1000000) : Fac (doL c l a) := by
 unfold doL
 split
 ·intro b hb
  rcases List.mem_append.1 hb with hb | hb
  ·exact h b hb
  ·simp at hb; rw [hb]; exact ha
 ·exact h

theorem len_do : (doL c l a).length ≤ l.length + 1 := by unfold doL; split <;> simp

structure CS (c : Cod) (j : Nat) where
 bs : List D
 F : Nat → Prop
 l : List Akt
 acc : Acc c l
 fac : Fac l
 crt : Court bs F j c l
 ny : noyls bs = true

noncomputable def CS.step (hc : CodOk c) (s : CS c j) (a : Akt) : CS c j :=
  if h : a.facts.length ≤ 1000000 then
    { bs := kill (Classical.choose (c26 s.acc hc s.crt a h))
      F := Classical.choose (Classical.choose_spec (c26 s.acc hc s.crt a h))
      l := doL c s.l a
      acc := acc_do s.acc a
      fac := fac_do s.fac h
      crt := Court.kill (Classical.choose_spec (Classical.choose_spec (c26 s.acc hc s.crt a h))).2.2
      ny := kill_noyl _ }
  else s

theorem CS.step_l (hc : CodOk c) (s : CS c j) {a : Akt} (h : a.facts.length ≤ 1000000) : (s.step hc a).l = doL c s.l a := by
  unfold CS.step; rw [dif_pos h]
theorem CS.step_do (hc : CodOk c) (s : CS c j) {a : Akt} (h : a.facts.length ≤ 1000000) : FSpecWO Try.prog 26 (.st s.bs) [.loc j 0, a.d] (.ret (.tup [I (doN c s.l a), I (refused c s.l a)])) (.st (s.step hc a).bs) := by
  unfold CS.step; rw [dif_pos h]
  exact FSpecWO.kill (Classical.choose_spec (Classical.choose_spec (c26 s.acc hc s.crt a h))).1
theorem CS.step_stp (hc : CodOk c) (s : CS c j) {a : Akt} (h : a.facts.length ≤ 1000000) : Stp s.bs s.F (s.step hc a).bs (s.step hc a).F := by
  unfold CS.step; rw [dif_pos h]
  exact stp_kill s.ny (Classical.choose_spec (Classical.choose_spec (c26 s.acc hc s.crt a h))).2.1

noncomputable def CS.run (hc : CodOk c) (s : CS c j) (l : List Akt) : CS c j := l.foldl (CS.step hc) s

theorem CS.run_snoc (hc : CodOk c) (s : CS c j) (l : List Akt) (a : Akt) : s.run hc (l ++ [a]) = (s.run hc l).step hc a := by simp [CS.run]

def CS.new (bs : List D) (c : Cod) : CS c bs.length := ⟨kill (bs ++ [.blk 99 9 (crtCells c .snil .snil)]), fun k => k = bs.length, [], acc_nil c, fun _ h => (by cases h), Court.kill (open_court bs c), kill_noyl _⟩

theorem c24n (ho : okCode c = true) : FSpecW Try.prog 24 (.st bs) [c.d] (.tup [.loc bs.length 0, I 0]) (.st (CS.new bs c).bs) := FSpecWO.kill (c24 ho)

def recOf (c : Cod) (l r : List Akt) : List Akt := r.foldl (doL c) l

theorem recOf_snoc (c : Cod) (l r : List Akt) (a : Akt) : recOf c l (r ++ [a]) = doL c (recOf c l r) a := by simp [recOf]

theorem CS.run_l (hc : CodOk c) (s : CS c j) : ∀ r : List Akt, Fac r → (s.run hc r).l = recOf c s.l r := by
 refine snocInd ?_ ?_
 ·intro _; rfl
 ·intro r a ih h
  rw [CS.run_snoc, recOf_snoc, CS.step_l hc _ (h a (by simp)), ih fun b hb => h b (by simp [hb])]

theorem recOf_len (c : Cod) : ∀ (r l : List Akt), (recOf c l r).length ≤ l.length + r.length := by
 refine snocInd ?_ ?_
 ·intro l; simp [recOf]
 ·intro r a ih l
  rw [recOf_snoc]
  have := ih l
  have h2 := len_do (c := c) (l := recOf c l r) (a := a)
  simp
  omega

theorem fac_take {l : List Akt} (h : Fac l) (i : Nat) : Fac (l.take i) := fun a ha => h a (List.mem_of_mem_take ha)

theorem take_one {l : List Akt} {i : Nat} (h : i < l.length) : l.take (i + 1) = l.take i ++ [l[i]] := List.take_succ_eq_append_getElem h

end Go.Am.Ct

/-
 A court that has done acts; states.
-/
namespace Go.Am.Ct
open Go.Proofs Go.Am.Ap
set_option maxRecDepth 100000
set_option maxHeartbeats 4000000

variable {bs : List D} {j : Nat} {c : Cod} {l : List Akt} {a : Akt} {F : Nat → Prop}

attribute [local irreducible] inR

theorem acc_rec {c : Cod} : ∀ (r l : List Akt), Acc c l → Acc c (recOf c l r) := by
 refine snocInd (fun l h => h) fun r a ih l h => ?_
 rw [recOf_snoc]
 exact acc_do (ih l h) a

abbrev rec (c : Cod) (l : List Akt) : List Akt := recOf c [] l

def errAt (c : Cod) (l : List Akt) (i : Nat) : Int := refused c (rec c (l.take i)) (nth l i)
def errs (c : Cod) (l : List Akt) (n : Nat) : List Int := (List.range n).map (errAt c l)

theorem rec_len (c : Cod) (l : List Akt) : (rec c l).length ≤ l.length := by
 have := recOf_len c l []
 simpa using this

theorem rec_take {i : Nat} (h : i < l.length) : rec c (l.take (i + 1)) = doL c (rec c (l.take i)) (nth l i) := by
 rw [take_one h, ← nth_get h]
 exact recOf_snoc c [] _ _

theorem mins_rec (c : Cod) (l : List Akt) : Mins (rec c l) := (inv_of _ (acc_rec l [] (acc_nil c))).mins

theorem c43 (hc : CodOk c) (hL : l.length ≤ 1000000) (hF : Fac l) : FSpecR Try.prog 43 (.st bs) [c.d, Rec l] (.tup [Rec (rec c l), Is (errs c l l.length)]) := by
 refine ku43.R rfl rfl ?_
 unfold u43
 simp only [ups_cons, ups_nil, List.cons_append, List.nil_append]
 repeat' (first | ((with_reducible apply u_chk); (· rfl)) | (with_reducible refine u_join ?_))
 refine u_range (fun i => [Rec (rec c (l.take i)), Is (errs c l i), I i]) (fun _ => True) l.length rfl (fun _ => rfl) trivial (fun i hi _ R hR => ?_) (fun _ R => ?_)
 ·have hr := hR trivial
  have hfi := hF _ (List.getElem_mem hi)
  have hlr := rec_len c (l.take i)
  have hti : (l.take i).length = i := by simp; omega
  have hca := hc.arts
  have h25 := c25 (bs := bs) (c := c) (l := rec c (l.take i)) (by omega) (by omega) (mins_rec c _) l[i] hfi
  have hel : (errs c l i).length = i := by simp [errs]
  have hm1 : (rec c (l.take i)).length + 1 ≤ maxLen := by unfold maxLen; omega
  have hm2 : (errs c l i).length + 1 ≤ maxLen := by unfold maxLen; omega
  have he : errs c l (i + 1) = errs c l i ++ [refused c (rec c (l.take i)) l[i]] := by
   unfold errs
   rw [List.range_succ, List.map_append]
   simp [errAt, nth_get hi]
  rw [rec_take hi, he, nth_get hi] at hr
  unfold doL at hr
  by_cases h0 : refused c (rec c (l.take i)) l[i] = 0
  ·rw [if_pos h0] at hr
   repeat' (first | ((with_reducible apply nrm); (· simp only [sbe]; rfl)) | ((with_reducible apply u_eaddr); (· rfl); (· rfl); (· exact eaddr_get hi rfl); (· simp only [sbe]; rfl)) | ((with_reducible apply u_app); (· rfl); (· rfl); (· first | exact app1_lst (enc := Akt.d) (a := l[i]) (by omega) hm1 (fun _ => rfl) | exact app1_lst (enc := I) (a := refused c (rec c (l.take i)) l[i]) (by omega) hm2 (fun _ => rfl)); (· simp only [sbe]; rfl)) | ((with_reducible apply u_lenL); (· rfl); (· exact lenL_map); (· simp only [sbe]; rfl)) | ((with_reducible apply u_inc); (· rfl); (· omega); (· simp only [sbe]; rfl)) | ((with_reducible apply u_ev); (· rfl); (· simp only [sbe]; rfl)) | ((with_reducible apply u_call); (· rfl); (· rfl); (· exact h25); (· rfl); (· simp only [sbe]; rfl)) | (with_reducible refine u_join ?_) | ((with_reducible apply u_jump); (· rfl); (· rfl)) | (with_reducible refine at_jump ?_) | (with_reducible refine kj rfl ?_) | ((with_reducible apply u_ite); (· rfl); all_goals (intro hz; (try simp only [sbs] at hz); first | (exact absurd hz (by decide)) | (exfalso; omega) | skip)))
   exact hr
  ·rw [if_neg h0] at hr
   repeat' (first | ((with_reducible apply nrm); (· simp only [sbe]; rfl)) | ((with_reducible apply u_eaddr); (· rfl); (· rfl); (· exact eaddr_get hi rfl); (· simp only [sbe]; rfl)) | ((with_reducible apply u_app); (· rfl); (· rfl); (· exact app1_lst (enc := I) (a := refused c (rec c (l.take i)) l[i]) (by omega) hm2 (fun _ => rfl)); (· simp only [sbe]; rfl)) | ((with_reducible apply u_lenL); (· rfl); (· exact lenL_map); (· simp only [sbe]; rfl)) | ((with_reducible apply u_inc); (· rfl); (· omega); (· simp only [sbe]; rfl)) | ((with_reducible apply u_ev); (· rfl); (· simp only [sbe]; rfl)) | ((with_reducible apply u_call); (· rfl); (· rfl); (· exact h25); (· rfl); (· simp only [sbe]; rfl)) | (with_reducible refine u_join ?_) | ((with_reducible apply u_jump); (· rfl); (· rfl)) | (with_reducible refine at_jump ?_) | (with_reducible refine kj rfl ?_) | ((with_reducible apply u_ite); (· rfl); all_goals (intro hz; (try simp only [sbs] at hz); first | (exact absurd hz (by decide)) | (exfalso; omega) | skip)))
   exact hr
 ·repeat' (first | ((with_reducible apply nrm); (· simp only [sbe]; rfl)) | ((with_reducible apply u_lenL); (· rfl); (· exact lenL_map); (· simp only [sbe]; rfl)) | ((with_reducible apply u_ev); (· rfl); (· simp only [sbe]; rfl)) | ((with_reducible apply u_jump); (· rfl); (· rfl)) | (with_reducible refine at_jump ?_) | (with_reducible refine over_jump (by decide) ?_) | (with_reducible refine kj rfl ?_) | ((with_reducible apply u_ite); (· rfl); all_goals (intro hz; (try simp only [sbs] at hz); first | (exact absurd hz (by decide)) | (exfalso; omega) | skip)) | ((with_reducible apply u_ret); (· rfl); first | exact rfl | (refine retB ?_) | (refine retI ?_) | (refine retD ?_)))
  rw [List.take_length]

noncomputable abbrev crt (hc : CodOk c) (bs : List D) (l : List Akt) : CS c bs.length := (CS.new bs c).run hc l

theorem crt_l (hc : CodOk c) (bs : List D) (hF : Fac l) : (crt hc bs l).l = rec c l := CS.run_l hc _ l hF

theorem crt_take (hc : CodOk c) (bs : List D) {i : Nat} (h : i < l.length) : crt hc bs (l.take (i + 1)) = (crt hc bs (l.take i)).step hc l[i] := by
 rw [take_one h]
 exact CS.run_snoc hc _ _ _

theorem errs_get {n i : Nat} (h : i < n) : (errs c l n)[i]? = some (errAt c l i) := by simp [errs, h]

theorem c30 (ho : okCode c = true) (hL : l.length ≤ 1000000) (hF : Fac l) : FSpecW Try.prog 30 (.st bs) [c.d, Rec l] (.tup [.loc bs.length 0, Rec (rec c l), B true]) (.st (crt (codOk_of ho) bs l).bs) := by
 have hc := codOk_of ho
 have k24 := c24n (bs := bs) ho
 have k43 := c43 (bs := (CS.new bs c).bs) hc hL hF
 refine ku30.W rfl ?_
 unfold u30
 simp only [ups_cons, ups_nil, List.cons_append, List.nil_append]
 repeat' (first | ((with_reducible apply nrm); (· simp only [sbe]; rfl)) | ((with_reducible apply u_iteF); (· rfl); (· exact rfl)) | ((with_reducible apply u_chk); (· rfl)) | ((with_reducible apply u_ev); (· rfl); (· simp only [sbe]; rfl)) | ((with_reducible apply u_call); (· rfl); (· rfl); (· exact k43); (· rfl); (· simp only [sbe]; rfl)) | ((with_reducible apply u_wcall); (· rfl); (· rfl); (· exact k24); (· rfl); (· simp only [sbe]; rfl)) | ((with_reducible apply u_or); (· rfl)) | (with_reducible refine u_join ?_) | (with_reducible exact u_ret rfl rfl) | ((with_reducible intro hz); (try simp only [sbs] at hz)))
 refine u_range (fun i => [I i, .st (crt hc bs (l.take i)).bs]) (fun _ => True) l.length rfl (fun _ => rfl) trivial (fun i hi _ R hR => ?_) (fun _ R => ?_)
 ·have hr := hR trivial
  have hfi := hF _ (List.getElem_mem hi)
  rw [crt_take hc bs hi] at hr
  have h26 := CS.step_do hc (crt hc bs (l.take i)) hfi
  have hl := crt_l hc bs (fac_take hF i)
  rw [hl] at h26
  have he : (errs c l l.length)[i]? = some (refused c (rec c (l.take i)) l[i]) := by rw [errs_get hi, errAt, nth_get hi]
  repeat' (first | ((with_reducible apply nrm); (· simp only [sbe]; rfl)) | ((with_reducible apply u_eaddr); (· rfl); (· rfl); (· first | exact eaddr_get hi rfl | exact eaddr_lst he rfl); (· simp only [sbe]; rfl)) | ((with_reducible apply u_lenL); (· rfl); (· exact lenL_map); (· simp only [sbe]; rfl)) | ((with_reducible apply u_inc); (· rfl); (· omega); (· simp only [sbe]; rfl)) | ((with_reducible apply u_ev); (· rfl); (· simp only [sbe]; rfl)) | ((with_reducible apply u_wcall); (· rfl); (· rfl); (· exact h26); (· rfl); (· simp only [sbe]; rfl)) | (with_reducible refine u_join ?_) | ((with_reducible apply u_jump); (· rfl); (· rfl)) | (with_reducible refine at_jump ?_) | (with_reducible refine kj rfl ?_) | ((with_reducible apply u_ite); (· rfl); all_goals (intro hz; (try simp only [sbs] at hz); first | (exact absurd hz (by decide)) | (exfalso; omega) | skip)))
  exact hr
 ·rw [List.take_length]
  repeat' (first | ((with_reducible apply nrm); (· simp only [sbe]; rfl)) | ((with_reducible apply u_lenL); (· rfl); (· exact lenL_map); (· simp only [sbe]; rfl)) | ((with_reducible apply u_ev); (· rfl); (· simp only [sbe]; rfl)) | ((with_reducible apply u_jump); (· rfl); (· rfl)) | (with_reducible refine at_jump ?_) | (with_reducible refine over_jump (by decide) ?_) | (with_reducible refine kj rfl ?_) | ((with_reducible apply u_ite); (· rfl); all_goals (intro hz; (try simp only [sbs] at hz); first | (exact absurd hz (by decide)) | (exfalso; omega) | skip)) | (with_reducible exact u_ret rfl rfl))

theorem rec_acc {c : Cod} : ∀ l : List Akt, Acc c l → rec c l = l := by
 refine snocInd (fun _ => rfl) fun l a ih h => ?_
 obtain ⟨h1, h2⟩ := acc_snoc.1 h
 show recOf c [] (l ++ [a]) = _
 rw [recOf_snoc]
 have e : recOf c [] l = l := ih h1
 rw [e]
 unfold doL
 rw [if_pos h2]

theorem acc_take {l : List Akt} (h : Acc c l) (i : Nat) : Acc c (l.take i) := by
 intro k hk
 have hk' : k < l.length ∧ k < i := by simp at hk; omega
 have := h k hk'.1
 rw [List.take_take, Nat.min_eq_left (by omega)]
 have e : nth (l.take i) k = nth l k := by simp [nth, List.getElem?_take, hk'.2]
 rw [e]
 exact this

theorem c42y (ho : okCode c = true) (hL : l.length ≤ 1000000) (hF : Fac l) (hA : Acc c l) : FSpecW Try.prog 42 (.st bs) [c.d, Rec l] (.tup [.loc bs.length 0, I (-1), I 0]) (.st (crt (codOk_of ho) bs l).bs) := by
 have hc := codOk_of ho
 have k24 := c24n (bs := bs) ho
 refine ku42.W rfl ?_
 unfold u42
 simp only [ups_cons, ups_nil, List.cons_append, List.nil_append]
 repeat' (first | ((with_reducible apply u_iteF); (· rfl); (· exact rfl)) | ((with_reducible apply u_chk); (· rfl)) | ((with_reducible apply u_lenL); (· rfl); (· exact lenL_map); (· simp only [sbe]; rfl)) | ((with_reducible apply u_ev); (· rfl); (· simp only [sbe]; rfl)) | ((with_reducible apply u_wcall); (· rfl); (· rfl); (· exact k24); (· rfl); (· simp only [sbe]; rfl)) | (with_reducible refine u_join ?_))
 refine u_range (fun i => [I i, .st (crt hc bs (l.take i)).bs]) (fun _ => True) l.length rfl (fun _ => rfl) trivial (fun i hi _ R hR => ?_) (fun _ R => ?_)
 ·have hr := hR trivial
  have hfi := hF _ (List.getElem_mem hi)
  rw [crt_take hc bs hi] at hr
  have h26 := CS.step_do hc (crt hc bs (l.take i)) hfi
  have hl := crt_l hc bs (fac_take hF i)
  have h0 := hA i hi
  rw [nth_get hi] at h0
  rw [hl, rec_acc _ (acc_take hA i), h0] at h26
  repeat' (first | ((with_reducible apply nrm); (· simp only [sbe]; rfl)) | ((with_reducible apply u_iteF); (· rfl); (· exact rfl)) | ((with_reducible apply u_chk); (· rfl)) | ((with_reducible apply u_eaddr); (· rfl); (· rfl); (· exact eaddr_get hi rfl); (· simp only [sbe]; rfl)) | ((with_reducible apply u_inc); (· rfl); (· omega); (· simp only [sbe]; rfl)) | ((with_reducible apply u_ev); (· rfl); (· simp only [sbe]; rfl)) | ((with_reducible apply u_wcall); (· rfl); (· rfl); (· exact h26); (· rfl); (· simp only [sbe]; rfl)) | (with_reducible refine u_join ?_) | ((with_reducible apply u_jump); (· rfl); (· rfl)) | (with_reducible refine at_jump ?_) | (with_reducible refine kj rfl ?_) | ((with_reducible apply u_ite); (· rfl); all_goals (intro hz; (try simp only [sbs] at hz); first | (exact absurd hz (by decide)) | (exfalso; omega) | skip)))
  exact hr
 ·rw [List.take_length]
  repeat' (first | ((with_reducible apply nrm); (· simp only [sbe]; rfl)) | ((with_reducible apply u_ev); (· rfl); (· simp only [sbe]; rfl)) | ((with_reducible apply u_jump); (· rfl); (· rfl)) | (with_reducible refine at_jump ?_) | (with_reducible refine over_jump (by decide) ?_) | (with_reducible refine kj rfl ?_) | ((with_reducible apply u_ite); (· rfl); all_goals (intro hz; (try simp only [sbs] at hz); first | (exact absurd hz (by decide)) | (exfalso; omega) | skip)) | (with_reducible exact u_ret rfl rfl))

end Go.Am.Ct

/-
 States of cases at a minute.
-/
namespace Go.Am.Ct
open Go.Proofs Go.Am.Ap
set_option maxRecDepth 100000
set_option maxHeartbeats 4000000

variable {bs : List D} {j : Nat} {c : Cod} {l : List Akt} {a : Akt} {F : Nat → Prop}

attribute [local irreducible] inR

def pk (l : List Akt) (k : Int) : Nat := (pro l).getD k.toNat 0

def thereB (l : List Akt) (k m : Int) : Bool := decide (0 ≤ k) && decide (k < (pro l).length) && decide ((nth l (pk l k)).minute ≤ m)

def rState (c : Cod) (l : List Akt) (k m : Int) : Int := if thereB l k m = true then stR c l k m else 0

theorem rl_min {kd k m : Int} {i : Nat} (h : rlast l kd k m = i) : (nth l i).minute ≤ m := by
 have := rlast_at h
 simp only [isAct, Bool.and_eq_true, decide_eq_true_eq] at this
 exact this.2

theorem pk_eaddr {k : Int} (h0 : 0 ≤ k) (h1 : k < (pro l).length) : D.eaddr 1 (Ix (prot l l.length)) (I k) = some (.ptr [In (pk l k)]) ∧ D.eaddr 12 (Rec l) (In (pk l k)) = some (.ptr (nth l (pk l k)).cs) := by
 have h2 : k.toNat < (prot l l.length).length := by unfold pro at h1; omega
 have h3 : pk l k = (prot l l.length)[k.toNat] := by unfold pk pro; simp [h2]
 rw [h3]
 refine ⟨?_, eaddr_nth (prot_lt l l.length _ (List.getElem_mem h2))⟩
 have e3 := eaddr_get (xs := prot l l.length) (enc := In) (i := k.toNat) (sz := 1) h2 rfl
 rw [show ((k.toNat : Nat) : Int) = k by omega] at e3
 exact e3

theorem u_orT {P : Program} {u v : U} {env : List D} {Q : Sig → Prop} {g : E} {p : Bool} (hg : g.eval env = some (.v (.bool p))) (hp : p = true) (k : NrmD P u (env ++ [.v (.bool true)]) Q) : denU P (.chain true g v u) env Q := by
 subst hp
 exact ⟨true, true, hg, fun e => (by cases e), k⟩

theorem c72 {sa sf : D} (h : ActsAt bs j c l sa sf) {p : Nat} (hp : p < l.length) {b1 n1 : Nat} (m : Int) : FSpecR Try.prog 72 (.st bs) [.loc j 0, .agg [I p, .sl b1 0 n1], I m] (B (decide ((nth l p).minute ≤ m))) := by
 refine ku72.R rfl rfl ?_
 unfold u72
 simp only [ups_cons, ups_nil, List.cons_append, List.nil_append]
 obtain ⟨b, rfl, hb⟩ := h.2.get hp
 repeat' (first | ((with_reducible apply u_chk); (· rfl)) | ((with_reducible apply u_ld); (· rfl); (· rfl); (· first | exact ld_blk h.1 rfl | exact ld_elc hb (fun _ => rfl) (List.getElem?_eq_getElem hp) rfl); (· simp only [sbe]; rfl)) | ((with_reducible apply u_eaddr); (· rfl); (· rfl); (· exact eaddr_sl hp); (· simp only [sbe]; rfl)) | ((with_reducible apply u_ev); (· rfl); (· simp only [sbe]; rfl)) | ((with_reducible apply u_ret); (· rfl); first | exact rfl | (refine retB ?_) | (refine retI ?_) | (refine retD ?_)))
 rw [nth_get hp]

def stE (c : Cod) (l : List Akt) (k m : Int) : Int := if inR m 0 10000000 = false then 2 else if rState c l k m = 0 then 5 else 0
def stS (c : Cod) (l : List Akt) (k m : Int) : Int := if inR m 0 10000000 = false then 0 else rState c l k m

theorem stR_pos (c : Cod) (l : List Akt) (k m : Int) : stR c l k m ≠ 0 := by
 unfold stR
 repeat' split
 all_goals omega

end Go.Am.Ct

/-
 Penalties.
-/
namespace Go.Am.Ct
open Go.Proofs Go.Am.Ap
set_option maxRecDepth 100000
set_option maxHeartbeats 4000000

variable {bs : List D} {j : Nat} {c : Cod} {l : List Akt} {a : Akt} {F : Nat → Prop}

attribute [local irreducible] inR

theorem c74 {sa sf : D} (h : ActsAt bs j c l sa sf) (car m : Int) : FSpecR Try.prog 74 (.st bs) [.loc j 0, I car, I m] (I (if (inR car 1 c.cars && inR m 0 10000000) = true then 0 else 2)) := by
 refine ku74.R rfl rfl ?_
 unfold u74
 simp only [ups_cons, ups_nil, List.cons_append, List.nil_append]
 repeat' (first | ((with_reducible apply nrm); (· simp only [sbe]; rfl)) | ((with_reducible apply u_iteF); (· rfl); (· exact rfl)) | ((with_reducible apply u_chk); (· rfl)) | ((with_reducible apply u_ld); (· rfl); (· rfl); (· exact ld_blk h.1 rfl); (· simp only [sbe]; rfl)) | ((with_reducible apply u_ev); (· rfl); (· simp only [sbe]; rfl)) | ((with_reducible apply u_call); (· rfl); (· rfl); (· first | exact c61 h | exact c52 _ _ _); (· rfl); (· simp only [sbe]; rfl)) | ((with_reducible apply u_or); (· rfl)) | ((with_reducible apply u_ite); (· rfl); all_goals (intro hz; (try simp only [sbs] at hz); first | (exact absurd hz (by decide)) | (exfalso; omega) | skip)) | (with_reducible exact u_ret rfl rfl) | ((with_reducible apply u_ret); (· rfl); first | exact rfl | (refine retB ?_) | (refine retI ?_) | (refine retD ?_)) | ((with_reducible intro hz); (try simp only [sbs] at hz)))
 ·rw [if_neg (by rcases hz with h1 | h1 <;> simp [h1])]
 ·rw [if_pos (by simp [hz])]

def rulGo (l : List Akt) (m : Int) : List Nat → Option Akt → Option Akt
 | [], o => o
 | i :: r, o => rulGo l m r (if (nth l i).minute ≤ m ∧ ((nth l i).kind = 3 ∨ (nth l i).kind = 5) then some (nth l i) else o)

theorem rulGo_cons (l : List Akt) (m : Int) (i : Nat) (r : List Nat) (o : Option Akt) : rulGo l m (i :: r) o = rulGo l m r (if (nth l i).minute ≤ m ∧ ((nth l i).kind = 3 ∨ (nth l i).kind = 5) then some (nth l i) else o) := rfl

def rcs (o : Option Akt) : List D := (o.getD Akt.zero).cs

theorem c84 {sa sf : D} (h : ActsAt bs j c l sa sf) {s : D} {idx : List Nat} (hs : SlOf bs 3 1 ncs s idx) (hi : ∀ i, i ∈ idx → i < l.length) (hL : idx.length ≤ 1000000) (p m : Int) : FSpecR Try.prog 84 (.st bs) [.loc j 0, .agg [I p, s], I m] (.tup [.agg (rcs (rulGo l m idx none)), B (rulGo l m idx none).isSome]) := by
  refine ku84.R rfl rfl ?_
  unfold u84
  simp only [ups_cons, ups_nil, List.cons_append, List.nil_append]
  repeat' (first | ((with_reducible apply u_chk); (· rfl)) | ((with_reducible apply u_lenL); (· rfl); (· exact hs.len); (· simp only [sbe]; rfl)) | (with_reducible refine u_join ?_))
  refine u_list idx (fun (o : Option Akt) i => [B o.isSome, I i, I (o.getD Akt.zero).kind, I (o.getD Akt.zero).minute, I (o.getD Akt.zero).paper, I (o.getD Akt.zero).cse, I (o.getD Akt.zero).by_, I (o.getD Akt.zero).against, I (o.getD Akt.zero).article, I (o.getD Akt.zero).at_, Is (o.getD Akt.zero).facts, I (o.getD Akt.zero).paid, B (o.getD Akt.zero).upheld, I (o.getD Akt.zero).penalty]) (fun r o => rulGo l m r o = rulGo l m idx none) none rfl (fun _ _ => rfl) rfl (fun i x o hx hlt hG R hR => ?_) (fun o hG R => ?_)
  · have hxl := hi x (List.mem_of_getElem? hx)
    obtain ⟨b1, rfl, hb1⟩ := hs.get hlt
    obtain ⟨b2, rfl, hb2⟩ := h.2.get hxl
    have hn := nth_get hxl
    rw [rulGo_cons, hn] at hG
    repeat' (first | ((with_reducible apply nrm); (· simp only [sbe]; rfl)) | ((with_reducible apply u_chk); (· rfl)) | ((with_reducible apply u_ld); (· rfl); (· rfl); (· first | exact ld_el0 hb1 (fun _ => rfl) hx rfl | exact ld_blk h.1 rfl | exact ld_el hb2 (fun _ => rfl) (List.getElem?_eq_getElem hxl)); (· simp only [sbe]; rfl)) | ((with_reducible apply u_eaddr); (· rfl); (· rfl); (· first | exact eaddr_sl hlt | exact eaddr_sl hxl); (· simp only [sbe]; rfl)) | ((with_reducible apply u_inc); (· rfl); (· omega); (· simp only [sbe]; rfl)) | ((with_reducible apply u_ev); (· rfl); (· simp only [sbe]; rfl)) | ((with_reducible apply u_or); (· rfl)) | ((with_reducible apply u_and); (· rfl)) | (with_reducible refine u_join ?_) | ((with_reducible apply u_jump); (· rfl); (· rfl)) | (with_reducible refine at_jump ?_) | (with_reducible refine kj rfl ?_) | ((with_reducible apply u_phiS); (· rfl); all_goals (intro hz; (try simp only [sbs] at hz); first | (exact absurd hz (by decide)) | (exfalso; omega) | (refine ⟨_, rfl, ?_⟩))) | ((with_reducible apply u_ite); (· rfl); all_goals (intro hz; (try simp only [sbs] at hz); first | (exact absurd hz (by decide)) | (exfalso; omega) | skip)) | (with_reducible exact u_ret rfl rfl) | ((with_reducible intro hz); (try simp only [sbs] at hz)))
    · rw [if_pos ⟨hz.1, hz.2⟩] at hG
      exact hR (some l[x]) hG
    · rw [if_neg (fun hh => by rcases hz with h1 | ⟨h1, h2⟩
                               · omega
                               · rcases hh.2 with h3 | h3
                                 · exact h1 h3
                                 · exact h2 h3)] at hG
      exact hR o hG
  · repeat' (first | ((with_reducible apply nrm); (· simp only [sbe]; rfl)) | ((with_reducible apply u_ev); (· rfl); (· simp only [sbe]; rfl)) | ((with_reducible apply u_jump); (· rfl); (· rfl)) | (with_reducible refine at_jump ?_) | (with_reducible refine over_jump (by decide) ?_) | (with_reducible refine kj rfl ?_) | ((with_reducible apply u_ite); (· rfl); all_goals (intro hz; (try simp only [sbs] at hz); first | (exact absurd hz (by decide)) | (exfalso; omega) | skip)) | ((with_reducible apply u_ret); (· rfl); first | exact rfl | (refine retB ?_) | (refine retI ?_) | (refine retD ?_)))
    have hG' : o = rulGo l m idx none := hG
    rw [← hG']
    rfl

def rulR (l : List Akt) (k m : Int) : Option Akt := if 0 ≤ rlast l 5 k m then some (nth l (rlast l 5 k m).toNat) else if 0 ≤ rlast l 3 k m then some (nth l (rlast l 3 k m).toNat) else none

theorem rulGo_opt (l : List Akt) (m x : Int) (r : List Nat) (o : Option Akt) : rulGo l m (opt x ++ r) o = rulGo l m r (if 0 ≤ x ∧ (nth l x.toNat).minute ≤ m ∧ ((nth l x.toNat).kind = 3 ∨ (nth l x.toNat).kind = 5) then some (nth l x.toNat) else o) := by
 unfold opt
 split
 ·rename_i h
  simp only [List.cons_append, List.nil_append, rulGo_cons, h, true_and]
 ·rename_i h
  simp [h]

theorem rul_eq (h : Inv c l) {k p : Nat} (hp : (pro l)[k]? = some p) {m : Int} (hm : m ≤ MM) : rulGo l m (idxOf l k p) none = rulR l k m := by
 have hkd : (nth l p).kind = 2 := pro_kind (List.mem_of_getElem? hp)
 have kinds : ∀ kd : Int, 0 ≤ rlast l kd k MM → (nth l (rlast l kd k MM).toNat).kind = kd := fun kd h0 => by
  obtain ⟨i, hi, _, hk, _⟩ := at_of h0
  rw [hi]
  simpa using hk
 unfold idxOf rulR
 rw [rulGo_cons, if_neg (by omega), rulGo_opt, rulGo_opt, rulGo_opt]
 rw [show opt (rlast l 6 k MM) = opt (rlast l 6 k MM) ++ [] by simp, rulGo_opt]
 rw [rl_m h (by omega : (3 : Int) ≤ 3) hm, rl_m h (by omega : (3 : Int) ≤ 5) hm]
 simp only [rulGo]
 have e6 : ¬ (0 ≤ rlast l 6 k MM ∧ (nth l (rlast l 6 k MM).toNat).minute ≤ m ∧ ((nth l (rlast l 6 k MM).toNat).kind = 3 ∨ (nth l (rlast l 6 k MM).toNat).kind = 5)) := fun hh => by
  have := kinds 6 hh.1; omega
 have e4 : ¬ (0 ≤ rlast l 4 k MM ∧ (nth l (rlast l 4 k MM).toNat).minute ≤ m ∧ ((nth l (rlast l 4 k MM).toNat).kind = 3 ∨ (nth l (rlast l 4 k MM).toNat).kind = 5)) := fun hh => by
  have := kinds 4 hh.1; omega
 rw [if_neg e6, if_neg e4]
 by_cases h5 : 0 ≤ rlast l 5 k MM ∧ (nth l (rlast l 5 k MM).toNat).minute ≤ m
 ·rw [if_pos ⟨h5.1, h5.2, .inr (kinds 5 h5.1)⟩, if_pos h5, if_pos h5.1]
 ·rw [if_neg (fun hh => h5 ⟨hh.1, hh.2.1⟩), if_neg h5]
  by_cases h3 : 0 ≤ rlast l 3 k MM ∧ (nth l (rlast l 3 k MM).toNat).minute ≤ m
  ·rw [if_pos ⟨h3.1, h3.2, .inl (kinds 3 h3.1)⟩, if_pos h3]
   simp [h3.1]
  ·rw [if_neg (fun hh => h3 ⟨hh.1, hh.2.1⟩), if_neg h3]
   simp

end Go.Am.Ct

/-
 What a ruling forces; the cases against a car.
-/
namespace Go.Am.Ct
open Go.Proofs Go.Am.Ap
set_option maxRecDepth 100000
set_option maxHeartbeats 4000000

variable {bs : List D} {j : Nat} {c : Cod} {l : List Akt} {a : Akt} {F : Nat → Prop}

attribute [local irreducible] inR

def ruled (c : Cod) (l : List Akt) (k m : Int) : Bool := decide (stR c l k m = 3) || decide (stR c l k m = 5)

def frP (c : Cod) (l : List Akt) (k m : Int) : Int := if ruled c l k m = true then ((rulR l k m).getD Akt.zero).penalty else 0
def frB (c : Cod) (l : List Akt) (k m : Int) : Bool := ruled c l k m && ((rulR l k m).isSome && ((rulR l k m).getD Akt.zero).upheld)

theorem c76 (hI : Inv c l) {sa sf : D} (h : ActsAt bs j c l sa sf) {k p : Nat} (hp : (pro l)[k]? = some p) {m : Int} (hm : m ≤ MM) (hpm : (nth l p).minute ≤ m) (hb : i64 m) {s : D} (hs : SlOf bs 3 1 ncs s (idxOf l k p)) (hi : ∀ i, i ∈ idxOf l k p → i < l.length) (hL : (idxOf l k p).length ≤ 1000000) : FSpecR Try.prog 76 (.st bs) [.loc j 0, .agg [I p, s], I m] (.tup [I (frP c l k m), B (frB c l k m)]) := by
 have h73 := c73 h (fun a ha => by have := hI.mins a ha; unfold inR at this; simp at this; omega) hs hi hL p m hb
 have h84 := c84 h hs hi hL p m
 rw [state_eq hI hp hm hpm] at h73
 rw [rul_eq hI hp hm] at h84
 obtain ⟨b1, rfl, hb1⟩ := hs.get (i := 0) (by unfold idxOf; simp)
 refine ku76.R rfl rfl ?_
 unfold u76
 simp only [ups_cons, ups_nil, List.cons_append, List.nil_append]
 unfold rcs at h84
 unfold frP frB ruled
 repeat' (first | ((with_reducible apply nrm); (· simp only [sbe]; rfl)) | ((with_reducible apply u_chk); (· rfl)) | ((with_reducible apply u_ev); (· rfl); (· simp only [sbe]; rfl)) | ((with_reducible apply u_call); (· rfl); (· rfl); (· first | exact h73 | exact h84); (· rfl); (· simp only [sbe]; rfl)) | ((with_reducible apply u_and); (· rfl)) | ((with_reducible apply u_ite); (· rfl); all_goals (intro hz; (try simp only [sbs] at hz); first | (exact absurd hz (by decide)) | (exfalso; omega) | skip)) | (with_reducible exact u_ret rfl rfl) | ((with_reducible apply u_ret); (· rfl); first | exact rfl | (refine retB ?_) | (refine retI ?_) | (refine retD ?_)) | ((with_reducible intro hz); (try simp only [sbs] at hz)))
 ·simp [hz]
 ·rcases hz with h1 | h1 <;> simp [h1]

def agP (l : List Akt) (car m : Int) (k : Nat) : Bool := decide ((nth l (pk l k)).minute ≤ m) && decide ((nth l (pk l k)).against = car)
def ags (l : List Akt) (car m : Int) : List Nat := (List.range (pro l).length).filter (agP l car m)

def fD (fs : List (Int × D)) (k : Nat) : D := .agg (fcs (fs.getD k (0, .tup [])))

theorem c75 (hA : Acc c l) {sa sf : D} {fs : List (Int × D)} (h : Crt bs F j c l (qOf l) sa sf fs) (car m : Int) : FSpecR Try.prog 75 (.st bs) [.loc j 0, I car, I m] (.lst ((ags l car m).map (fD fs))) := by
 have hI := inv_of l hA
 have hlen := hI.len
 have hfl : fs.length = (pro l).length := by rw [h.len, qOf_len]
 have hpl : (pro l).length ≤ l.length := by unfold pro; have := prot_len l l.length; omega
 refine ku75.R rfl rfl ?_
 unfold u75
 simp only [ups_cons, ups_nil, List.cons_append, List.nil_append]
 repeat' (first | ((with_reducible apply u_chk); (· rfl)) | ((with_reducible apply u_ld); (· rfl); (· rfl); (· exact ld_blk h.acts.1 rfl); (· simp only [sbe]; rfl)) | ((with_reducible apply u_lenL); (· rfl); (· exact h.files.len); (· simp only [sbe]; rfl)) | (with_reducible refine u_join ?_))
 refine u_list (List.range fs.length) (fun (acc : List Nat) i => [.lst (acc.map (fD fs)), I i]) (fun r acc => acc ++ r.filter (agP l car m) = ags l car m ∧ acc.length + r.length ≤ fs.length) [] rfl (fun _ _ => rfl) ⟨by rw [hfl]; rfl, by simp⟩ (fun i x acc hx hlt hG R hR => ?_) (fun acc hG R => ?_)
 ·obtain ⟨hlt2, rfl⟩ : i < fs.length ∧ x = i := by
   rw [List.getElem?_range (by simpa using hlt)] at hx
   exact ⟨by simpa using hlt, by simpa using hx.symm⟩
  obtain ⟨p, hp⟩ : ∃ p, (pro l)[x]? = some p := ⟨_, List.getElem?_eq_getElem (by omega)⟩
  obtain ⟨s, hF⟩ := h.caseAt hA hp
  have hFs := hF.sl
  obtain ⟨b1, rfl, hb1⟩ := hFs.get (List.length_pos_iff.2 hF.ne)
  have hfs := h.files
  obtain ⟨b, rfl, hb⟩ := hfs.get hlt2
  have hact := h.acts.2
  obtain ⟨b2, rfl, hb2⟩ := hact.get hF.pl
  have h72 := c72 h.acts hF.pl (b1 := b1) (n1 := (idxOf l x p).length) m
  have hpk : pk l x = p := by unfold pk; simp [hp]
  have hfd : fD fs x = .agg [I p, .sl b1 0 (idxOf l x p).length] := by unfold fD; simp [hF.fk]; rfl
  have hag : agP l car m x = (decide ((nth l p).minute ≤ m) && decide ((nth l p).against = car)) := by unfold agP; rw [hpk]
  have hll := hG.2
  simp only [List.length_cons] at hll
  rw [List.filter_cons, hag] at hG
  have hac : acc.length + 1 ≤ 1000000 := by omega
  have hml : acc.length + 1 ≤ maxLen := by unfold maxLen; omega
  have ha1 := app1_lst (xs := acc) (enc := fD fs) (a := x) (sz := 2) (bytes := 32) (by omega) hml (fun _ => rfl)
  rw [hfd] at ha1
  repeat' (first | ((with_reducible apply nrm); (· simp only [sbe]; rfl)) | ((with_reducible apply u_chk); (· rfl)) | ((with_reducible apply u_ld); (· rfl); (· rfl); (· first | exact ld_blk h.acts.1 rfl | exact ld_el hb (fun _ => rfl) hF.fk | exact ld_elc hb2 (fun _ => rfl) (List.getElem?_eq_getElem hF.pl) rfl); (· simp only [sbe]; rfl)) | ((with_reducible apply u_eaddr); (· rfl); (· rfl); (· first | exact eaddr_sl hlt2 | exact eaddr_sl hF.pl); (· simp only [sbe]; rfl)) | ((with_reducible apply u_app); (· rfl); (· rfl); (· exact ha1); (· simp only [sbe]; rfl)) | ((with_reducible apply u_inc); (· rfl); (· omega); (· simp only [sbe]; rfl)) | ((with_reducible apply u_ev); (· rfl); (· simp only [sbe]; rfl)) | ((with_reducible apply u_call); (· rfl); (· rfl); (· exact h72); (· rfl); (· simp only [sbe]; rfl)) | ((with_reducible apply u_and); (· rfl)) | (with_reducible refine u_join ?_) | ((with_reducible apply u_jump); (· rfl); (· rfl)) | (with_reducible refine at_jump ?_) | (with_reducible refine kj rfl ?_) | ((with_reducible apply u_ite); (· rfl); all_goals (intro hz; (try simp only [sbs] at hz); first | (exact absurd hz (by decide)) | (exfalso; omega) | skip)) | (with_reducible exact u_ret rfl rfl) | ((with_reducible intro hz); (try simp only [sbs] at hz)))
  ·refine hR (acc ++ [x]) ⟨?_, ?_⟩
   ·have := hG.1
    rw [nth_get hF.pl] at this
    try rw [nth_get hF.pl] at hz
    rw [if_pos (by simpa using hz)] at this
    simpa using this
   ·simp; simp at hll; omega
  ·refine hR acc ⟨?_, ?_⟩
   ·have := hG.1
    rw [nth_get hF.pl] at this
    try rw [nth_get hF.pl] at hz
    rw [if_neg (by
     intro hh
     simp only [Bool.and_eq_true, decide_eq_true_eq] at hh
     rcases hz with h1 | h1
     ·omega
     ·exact h1 hh.2)] at this
    exact this
   ·simp at hll ⊢; omega
 ·rw [List.length_range]
  repeat' (first | ((with_reducible apply nrm); (· simp only [sbe]; rfl)) | ((with_reducible apply u_ev); (· rfl); (· simp only [sbe]; rfl)) | ((with_reducible apply u_jump); (· rfl); (· rfl)) | (with_reducible refine at_jump ?_) | (with_reducible refine over_jump (by decide) ?_) | (with_reducible refine kj rfl ?_) | ((with_reducible apply u_ite); (· rfl); all_goals (intro hz; (try simp only [sbs] at hz); first | (exact absurd hz (by decide)) | (exfalso; omega) | skip)) | ((with_reducible apply u_ret); (· rfl); first | exact rfl | (refine retB ?_) | (refine retI ?_) | (refine retD ?_)))
  have hG' := hG.1
  rw [List.filter_nil, List.append_nil] at hG'
  rw [hG']

end Go.Am.Ct

/-
 Penalties, as the specification has them.
-/
namespace Go.Am.Ct
open Go.Proofs Go.Am.Ap
set_option maxRecDepth 100000
set_option maxHeartbeats 4000000

variable {bs : List D} {j : Nat} {c : Cod} {l : List Akt} {a : Akt} {F : Nat → Prop}

attribute [local irreducible] inR

def rulI (l : List Akt) (k m : Int) : Int := if rlast l 5 k m > rlast l 3 k m then rlast l 5 k m else rlast l 3 k m

theorem rulI_eq (hI : Inv c l) {k m : Int} (hm : m ≤ MM) : rulR l k m = if 0 ≤ rulI l k m then some (nth l (rulI l k m).toNat) else none := by
 have s := hI.shape k
 have s1 := s.dx
 have s2 := s.da
 have s3 := s.aj
 have s4 := s.oa
 have s5 := s.oj
 have l3 := rlast_lt l 3 k m
 have l5 := rlast_lt l 5 k m
 have e3 := rl_m hI (by omega : (3 : Int) ≤ 3) hm (k := k)
 have e5 := rl_m hI (by omega : (3 : Int) ≤ 5) hm (k := k)
 unfold rulR rulI
 by_cases h5 : 0 ≤ rlast l 5 k m
 ·have hlt : rlast l 5 k m > rlast l 3 k m := by
   split at e5
   ·split at e3 <;> omega
   ·omega
  rw [if_pos h5, if_pos hlt, if_pos h5]
 ·have hlt : ¬ rlast l 5 k m > rlast l 3 k m := by omega
  rw [if_neg h5, if_neg hlt]

theorem rulI_lt (l : List Akt) (k m : Int) : rulI l k m < l.length := by
 have l3 := rlast_lt l 3 k m
 have l5 := rlast_lt l 5 k m
 unfold rulI
 split <;> omega

theorem rulI_pos {k m : Int} (h : ruled c l k m = true) : 0 ≤ rulI l k m := by
 unfold ruled stR at h
 unfold rulI
 have l3 := rlast_lt l 3 k m
 have l5 := rlast_lt l 5 k m
 by_cases h6 : 0 ≤ rlast l 6 k m
 ·rw [if_pos h6] at h; simp at h
 ·rw [if_neg h6] at h
  by_cases h5 : 0 ≤ rlast l 5 k m
  ·split <;> omega
  ·rw [if_neg h5] at h
   by_cases h4 : 0 ≤ rlast l 4 k m
   ·rw [if_pos h4] at h; simp at h
   ·rw [if_neg h4] at h
    by_cases h3 : rlast l 3 k m < 0
    ·rw [if_pos h3] at h; simp at h
    ·split <;> omega

def fB (c : Cod) (l : List Akt) (k m : Int) : Bool := thereB l k m && frB c l k m
def fP (c : Cod) (l : List Akt) (k m : Int) : Int := if thereB l k m = true then frP c l k m else 0

end Go.Am.Ct

/-
 The specification's Penalty.
-/
namespace Go.Am.Ct
open Go.Proofs Go.Am.Ap
set_option maxRecDepth 100000
set_option maxHeartbeats 4000000

variable {bs : List D} {j : Nat} {c : Cod} {l : List Akt} {a : Akt} {F : Nat → Prop}

attribute [local irreducible] inR

def ctb (c : Cod) (l : List Akt) (m : Int) (k : Nat) : Int := if fB c l k m = true then fP c l k m else 0
def cpr (c : Cod) (l : List Akt) (m : Int) (k : Nat) : Bool := (rState c l k m == 1) || (rState c l k m == 3) || (rState c l k m == 4)
def agB (l : List Akt) (car : Int) (k : Nat) : Bool := decide ((nth l (pk l k)).against = car)
def agC (l : List Akt) (car : Int) : List Nat := (List.range (pro l).length).filter (agB l car)
def pubW (c : Cod) (m : Int) (a : Akt) : Bool := decide (a.kind = 1) && inR (m - a.minute) 0 c.window

def penR (c : Cod) (l : List Akt) (car m : Int) : Int := ((agC l car).map (ctb c l m)).sum
def prvR (c : Cod) (l : List Akt) (car m : Int) : Bool := (agC l car).any (cpr c l m) || l.any (pubW c m)

theorem rul_kind {k m : Int} (h : 0 ≤ rulI l k m) : (nth l (rulI l k m).toNat).kind = 3 ∨ (nth l (rulI l k m).toNat).kind = 5 := by
 unfold rulI at h ⊢
 split at h
 ·rename_i h5
  rw [if_pos h5]
  obtain ⟨i, hi⟩ : ∃ i : Nat, rlast l 5 k m = i := ⟨(rlast l 5 k m).toNat, by omega⟩
  have hP := rlast_at hi
  simp only [isAct, Bool.and_eq_true, beq_iff_eq] at hP
  rw [hi]
  exact .inr (by simpa using hP.1.1)
 ·rename_i h5
  rw [if_neg h5]
  obtain ⟨i, hi⟩ : ∃ i : Nat, rlast l 3 k m = i := ⟨(rlast l 3 k m).toNat, by omega⟩
  have hP := rlast_at hi
  simp only [isAct, Bool.and_eq_true, beq_iff_eq] at hP
  rw [hi]
  exact .inl (by simpa using hP.1.1)

theorem actOk_pen {cars : Int} {a : Akt} (h : actOk cars a = true) (hk : a.kind = 3 ∨ a.kind = 5) : 0 ≤ a.penalty ∧ a.penalty ≤ 36000000 := by
 unfold actOk at h
 simp only [Bool.and_eq_true] at h
 have h := h.1
 rw [if_neg (by omega), if_neg (by omega), if_pos (by omega)] at h
 simp only [Bool.and_eq_true, decide_eq_true_eq, inR] at h
 omega

theorem frP_bd (hI : Inv c l) {k m : Int} (hm : m ≤ MM) : 0 ≤ frP c l k m ∧ frP c l k m ≤ 36000000 := by
 unfold frP
 split
 ·rename_i h
  rw [rulI_eq hI hm, if_pos (rulI_pos h)]
  have h0 := rulI_pos h
  have hlt := rulI_lt l k m
  exact actOk_pen (hI.ok _ (by omega)) (rul_kind h0)
 ·omega

theorem ctb_bd (hI : Inv c l) {m : Int} (hm : m ≤ MM) (k : Nat) : 0 ≤ ctb c l m k ∧ ctb c l m k ≤ 36000000 := by
 have := frP_bd hI (k := k) hm
 unfold ctb fP
 split
 ·split
  ·exact this
  ·omega
 ·omega

end Go.Am.Ct

/-
 The acts up to a minute, one after the other.
-/
namespace Go.Am.Ct
open Go.Proofs Go.Am.Ap
set_option maxRecDepth 100000
set_option maxHeartbeats 4000000

variable {bs : List D} {j : Nat} {c : Cod} {l : List Akt} {a : Akt} {F : Nat → Prop}

attribute [local irreducible] inR

theorem c77 (m : Int) : FSpecR Try.prog 77 (.st bs) [.loc j 0, I m] (.fn 101 [] [.ptr [.loc j 0], .ptr [I m]]) := by
 refine ku77.R rfl rfl ?_
 unfold u77
 simp only [ups_cons, ups_nil, List.cons_append, List.nil_append]
 repeat' (first | ((with_reducible apply u_ev); (· rfl); (· simp only [sbe]; rfl)) | (with_reducible exact u_ret rfl rfl))

theorem c101 {sa sf : D} (f : Nat → List D) {m : Int} {k : Nat} (hL : l.length ≤ 1000000) (hk : k ≤ l.length) (hact : ∀ i, i ≤ k → ActsAt (f i) j c l sa sf) (hlow : ∀ i (h : i < l.length), i < k → l[i].minute ≤ m) (hup : ∀ h : k < l.length, m < l[k].minute) {m0 : Nat} {rec : Loop} {sl : List Nat} {cds : List D} (hy : ∀ i (h : i < l.length), i < k → YSpec Try.prog (.yl m0 rec sl cds) (.st (f i)) [I i, l[i].d] (.st (f (i + 1)))) : FSpecW Try.prog 101 (.st (f 0)) [.yl m0 rec sl cds, .ptr [.loc j 0], .ptr [I m]] (.tup []) (.st (f k)) := by
 have h0 := hact 0 (Nat.zero_le _)
 refine ku101.W rfl ?_
 unfold u101
 simp only [ups_cons, ups_nil, List.cons_append, List.nil_append]
 repeat' (first | ((with_reducible apply u_chk); (· rfl)) | ((with_reducible apply u_ld); (· rfl); (· rfl); (· exact ld_blk h0.1 rfl); (· simp only [sbe]; rfl)) | ((with_reducible apply u_lenL); (· rfl); (· exact h0.2.len); (· simp only [sbe]; rfl)) | ((with_reducible apply u_ev); (· rfl); (· simp only [sbe]; rfl)) | (with_reducible refine u_join ?_))
 refine u_range (fun i => [I i, .st (f i)]) (fun _ => True) k rfl (fun _ => rfl) trivial (fun i hi _ R hR => ?_) (fun _ R => ?_)
 ·have hA := (hact i (by omega)).2
  have hil : i < l.length := by omega
  obtain ⟨b, rfl, hb⟩ := hA.get hil
  have hcf : decide (l[i].minute > m) = false := by have := hlow i hil hi; simp; omega
  have hcf2 : (decide (l[i].minute > m) || !true) = false := by rw [hcf]; rfl
  have hcl : decide ((i : Int) < (l.length : Int)) = true := by simp; omega
  repeat' (first | ((with_reducible apply nrm); (· simp only [sbe]; rfl)) | ((with_reducible apply u_genA); (· rfl); (· exact hcf); (· rfl); (· rfl); (· rfl); (· exact ⟨rfl, hy i hil hi⟩); (· rfl); (· simp only [sbe]; rfl)) | ((with_reducible apply u_iteT); (· rfl); (· exact hcl)) | ((with_reducible apply u_iteF); (· rfl); (· exact hcf2)) | ((with_reducible apply u_chk); (· rfl)) | ((with_reducible apply u_ld); (· rfl); (· rfl); (· exact ld_el hb (fun _ => rfl) (List.getElem?_eq_getElem hil)); (· simp only [sbe]; rfl)) | ((with_reducible apply u_eaddr); (· rfl); (· rfl); (· exact eaddr_sl hil); (· simp only [sbe]; rfl)) | ((with_reducible apply u_inc); (· rfl); (· omega); (· simp only [sbe]; rfl)) | ((with_reducible apply u_ev); (· rfl); (· simp only [sbe]; rfl)) | ((with_reducible apply u_or); (· rfl)) | (with_reducible refine u_join ?_) | ((with_reducible apply u_jump); (· rfl); (· rfl)) | (with_reducible refine at_jump ?_) | (with_reducible refine kj rfl ?_) | (with_reducible exact u_ret rfl rfl) | ((with_reducible intro hz); (try simp only [sbs] at hz)))
  exact hR trivial
 ·rcases Nat.lt_or_ge k l.length with h | h
  ·have hA := (hact k (by omega)).2
   obtain ⟨b, rfl, hb⟩ := hA.get h
   have hct : decide (l[k].minute > m) = true := by have := hup h; simp; omega
   have hcl : decide ((k : Int) < (l.length : Int)) = true := by simp; omega
   repeat' (first | ((with_reducible apply nrm); (· simp only [sbe]; rfl)) | ((with_reducible apply u_genN (.v (.bool false))); (· rfl); (· exact hct); (· rfl); (· simp only [sbe]; rfl)) | ((with_reducible apply u_orT); (· rfl); (· exact hct)) | ((with_reducible apply u_iteT); (· rfl); (· first | exact hcl | exact rfl)) | ((with_reducible apply u_chk); (· rfl)) | ((with_reducible apply u_ld); (· rfl); (· rfl); (· exact ld_el hb (fun _ => rfl) (List.getElem?_eq_getElem h)); (· simp only [sbe]; rfl)) | ((with_reducible apply u_eaddr); (· rfl); (· rfl); (· exact eaddr_sl h); (· simp only [sbe]; rfl)) | ((with_reducible apply u_ev); (· rfl); (· simp only [sbe]; rfl)) | (with_reducible refine u_join ?_) | ((with_reducible apply u_ret); (· rfl); first | exact rfl | (refine retB ?_) | (refine retI ?_) | (refine retD ?_)))
  ·have hcl : decide ((k : Int) < (l.length : Int)) = false := by simp; omega
   repeat' (first | ((with_reducible apply nrm); (· simp only [sbe]; rfl)) | ((with_reducible apply u_iteF); (· rfl); (· exact hcl)) | ((with_reducible apply u_ev); (· rfl); (· simp only [sbe]; rfl)) | ((with_reducible apply u_jump); (· rfl); (· rfl)) | (with_reducible refine at_jump ?_) | (with_reducible refine over_jump (by decide) ?_) | (with_reducible refine kj rfl ?_) | (with_reducible exact u_ret rfl rfl))

end Go.Am.Ct

/-
 The court's Penalty.
-/
namespace Go.Am.Ct
open Go.Proofs Go.Am.Ap
set_option maxRecDepth 100000
set_option maxHeartbeats 4000000

variable {bs : List D} {j : Nat} {c : Cod} {l : List Akt} {a : Akt} {F : Nat → Prop}

attribute [local irreducible] inR

theorem filter_sum {P Q : Nat → Bool} {f : Nat → Int} : ∀ {r : List Nat}, (∀ k, k ∈ r → P k = true → Q k = true) → (∀ k, k ∈ r → Q k = true → P k = false → f k = 0) → ((r.filter P).map f).sum = ((r.filter Q).map f).sum
 | [], _, _ => rfl
 | k :: r, h1, h2 => by
  have ih := filter_sum (f := f) (r := r) (fun k hk => h1 k (by simp [hk])) (fun k hk => h2 k (by simp [hk]))
  rw [List.filter_cons, List.filter_cons]
  cases hp : P k
  ·cases hq : Q k
   ·simpa using ih
   ·simp [ih, h2 k (by simp) hq hp]
  ·simp [ih, h1 k (by simp) hp]

theorem filter_any {P Q : Nat → Bool} {f : Nat → Bool} : ∀ {r : List Nat}, (∀ k, k ∈ r → P k = true → Q k = true) → (∀ k, k ∈ r → Q k = true → P k = false → f k = false) → (r.filter P).any f = (r.filter Q).any f
 | [], _, _ => rfl
 | k :: r, h1, h2 => by
  have ih := filter_any (f := f) (r := r) (fun k hk => h1 k (by simp [hk])) (fun k hk => h2 k (by simp [hk]))
  rw [List.filter_cons, List.filter_cons]
  cases hp : P k
  ·cases hq : Q k
   ·simpa using ih
   ·simp [ih, h2 k (by simp) hq hp]
  ·simp [ih, h1 k (by simp) hp]

theorem there_no {k : Nat} {m : Int} (h : ¬ (nth l (pk l k)).minute ≤ m) : thereB l k m = false := by
 unfold thereB
 rw [decide_eq_false h]
 simp

theorem there_yes {k : Nat} {m : Int} (hk : k < (pro l).length) (h : (nth l (pk l k)).minute ≤ m) : thereB l k m = true := by
 unfold thereB
 rw [decide_eq_true h]
 simp
 omega

theorem ags_mem {car m : Int} {k : Nat} (h : k ∈ ags l car m) : k < (pro l).length ∧ (nth l (pk l k)).minute ≤ m ∧ (nth l (pk l k)).against = car := by
 unfold ags agP at h
 simp only [List.mem_filter, List.mem_range, Bool.and_eq_true, decide_eq_true_eq] at h
 exact h

theorem ags_sum (c : Cod) (car m : Int) : ((ags l car m).map (ctb c l m)).sum = penR c l car m := by
 unfold ags penR agC
 refine filter_sum (fun k _ h => ?_) (fun k _ h1 h2 => ?_)
 ·unfold agP at h; unfold agB; simp at h ⊢; exact h.2
 ·unfold agP at h2
  unfold agB at h1
  rw [h1, Bool.and_true, decide_eq_false_iff_not] at h2
  unfold ctb fB
  rw [there_no h2]
  simp

theorem ags_any (c : Cod) (car m : Int) : (ags l car m).any (cpr c l m) = (agC l car).any (cpr c l m) := by
 unfold ags agC
 refine filter_any (fun k _ h => ?_) (fun k _ h1 h2 => ?_)
 ·unfold agP at h; unfold agB; simp at h ⊢; exact h.2
 ·unfold agP at h2
  unfold agB at h1
  rw [h1, Bool.and_true, decide_eq_false_iff_not] at h2
  unfold cpr rState
  rw [there_no h2]
  simp

def upN (l : List Akt) (m : Int) : Nat := (l.takeWhile fun a => decide (a.minute ≤ m)).length

theorem upN_le (l : List Akt) (m : Int) : upN l m ≤ l.length := by
 unfold upN
 exact (List.takeWhile_sublist _).length_le

theorem upN_low {m : Int} : ∀ {l : List Akt} {i : Nat} (h : i < l.length), i < upN l m → l[i].minute ≤ m
 | [], i, h, _ => by simp at h
 | a :: r, i, h, hi => by
  unfold upN at hi
  rw [List.takeWhile_cons] at hi
  split at hi
  ·rename_i ha
   cases i with
   | zero => simpa using ha
   | succ i => exact upN_low (l := r) (by simpa using h) (by unfold upN; simpa using hi)
  ·simp at hi

theorem upN_up {m : Int} : ∀ {l : List Akt} (h : upN l m < l.length), m < l[upN l m].minute
 | [], h => by simp at h
 | a :: r, h => by
  by_cases ha : a.minute ≤ m
  ·have e : upN (a :: r) m = upN r m + 1 := by unfold upN; rw [List.takeWhile_cons, if_pos (by simpa using ha)]; simp
   have := upN_up (l := r) (m := m) (by rw [e] at h; simpa using h)
   simp only [e, List.getElem_cons_succ]
   exact this
  ·have e : upN (a :: r) m = 0 := by unfold upN; rw [List.takeWhile_cons, if_neg (by simpa using ha)]; rfl
   simp only [e, List.getElem_cons_zero]
   omega

def pubC (c : Cod) (m : Int) (a : Akt) : Bool := decide (a.kind = 1) && decide (m - a.minute ≤ c.window)

theorem up_any (hI : Inv c l) (m : Int) : (l.take (upN l m)).any (pubC c m) = l.any (pubW c m) := by
 rw [Bool.eq_iff_iff, List.any_eq_true, List.any_eq_true]
 constructor
 ·rintro ⟨a, ha, hp⟩
  obtain ⟨i, hi, rfl⟩ := List.mem_iff_getElem.1 ha
  have hi2 : i < upN l m ∧ i < l.length := by simp at hi; omega
  have hlow := upN_low hi2.2 hi2.1
  rw [List.getElem_take] at hp
  refine ⟨l[i], List.getElem_mem _, ?_⟩
  unfold pubC at hp
  unfold pubW inR
  simp only [Bool.and_eq_true, decide_eq_true_eq] at hp ⊢
  omega
 ·rintro ⟨a, ha, hp⟩
  obtain ⟨i, hi, rfl⟩ := List.mem_iff_getElem.1 ha
  unfold pubW inR at hp
  simp only [Bool.and_eq_true, decide_eq_true_eq] at hp
  have hlt : i < upN l m := by
   rcases Nat.lt_or_ge i (upN l m) with h | h
   ·exact h
   ·exfalso
    have h1 : upN l m < l.length := by omega
    have h2 := upN_up h1
    have h3 := hI.sorted _ _ h hi
    rw [nth_get h1, nth_get hi] at h3
    omega
  refine ⟨l[i], ?_, ?_⟩
  ·rw [List.mem_iff_getElem]
   exact ⟨i, by simp; omega, by simp⟩
  ·unfold pubC
   simp only [Bool.and_eq_true, decide_eq_true_eq]
   omega

def ysto (bs : List D) (c : Cod) (m : Int) (l : List Akt) (p : Bool) (i : Nat) : List D := bs ++ .blk 4 1 [B (p || (l.take i).any (pubC c m))] :: (l.take i).map fun a => .blk 43 12 a.cs

def penB (c : Cod) (car m : Int) : Bool := inR car 1 c.cars && inR m 0 10000000
def penE (c : Cod) (car m : Int) : Int := if penB c car m = true then 0 else 2
def penA (c : Cod) (l : List Akt) (car m : Int) : Int := if penB c car m = true then penR c l car m else 0
def prvA (c : Cod) (l : List Akt) (car m : Int) : Bool := penB c car m && prvR c l car m

end Go.Am.Ct

/-
 What is paid and what is given back: the court's account and the specification's.
-/
namespace Go.Am.Ct
open Go.Proofs Go.Am.Ap
set_option maxHeartbeats 1000000

variable {c : Cod} {l : List Akt} {a : Akt}

attribute [local irreducible] inR

/-! ## sums -/

def sumTo (f : Nat → Int) (n : Nat) : Int := ((List.range n).map f).sum

theorem sumTo_succ (f : Nat → Int) (n : Nat) : sumTo f (n + 1) = sumTo f n + f n := by
 unfold sumTo
 rw [List.range_succ, List.map_append, List.sum_append]
 simp

theorem sumTo_congr {f g : Nat → Int} : ∀ {n : Nat}, (∀ k, k < n → f k = g k) → sumTo f n = sumTo g n
 | 0, _ => rfl
 | n + 1, h => by rw [sumTo_succ, sumTo_succ, sumTo_congr fun k hk => h k (by omega), h n (by omega)]

/-! ## the walk over a case's acts -/

/-! ## the accounts -/

theorem pk_get {k : Nat} (h : k < (pro l).length) : pk l k = (pro l)[k] := by unfold pk; simp [h]
theorem pk_lt {k : Nat} (h : k < (pro l).length) : pk l k < l.length := by
 rw [pk_get h]
 exact prot_lt l l.length _ (List.getElem_mem h)

theorem there_no' {k : Nat} {m : Int} (h : ¬ (nth l (pk l k)).minute ≤ m) : thereB l k m = false := by
 unfold thereB
 rw [decide_eq_false h]
 simp

theorem there_yes' {k : Nat} {m : Int} (hk : k < (pro l).length) (h : (nth l (pk l k)).minute ≤ m) : thereB l k m = true := by
 unfold thereB
 rw [decide_eq_true h]
 simp
 omega

end Go.Am.Ct

/-
 The specification's Balance.
-/
namespace Go.Am.Ct
open Go.Proofs Go.Am.Ap
set_option maxRecDepth 100000
set_option maxHeartbeats 4000000

variable {bs : List D} {j : Nat} {c : Cod} {l : List Akt} {a : Akt} {F : Nat → Prop}

attribute [local irreducible] inR

end Go.Am.Ct

/-
 The court's Balance.
-/
namespace Go.Am.Ct
open Go.Proofs Go.Am.Ap
set_option maxRecDepth 100000
set_option maxHeartbeats 4000000

variable {bs : List D} {j : Nat} {c : Cod} {l : List Akt} {a : Akt} {F : Nat → Prop}

attribute [local irreducible] inR

theorem loop_exit {P : Program} {u : U} {env : List D} {Q : Sig → Prop} {K : List D → Prop} {n : Nat} (X : List D) (h : denU P u env (catchL n (fun ds => ds = X) (fun _ => False))) (k : K X) : denU P u env (catchL n K Q) :=
 denU_mono (fun s hs => by
  cases s with
  | jump l' ds =>
   simp only [catchL] at hs ⊢
   split
   ·rename_i e; rw [if_pos e] at hs; rw [hs]; exact k
   ·rename_i e; rw [if_neg e] at hs; exact hs.elim
  | ret d => exact hs.elim
  | pan d st sl kd => exact hs.elim) h

end Go.Am.Ct
