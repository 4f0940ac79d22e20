/-
 Do is as the specification says.
-/
import Derived.Test.YtnenlnmfoocpdaaApU3toApCourt5
set_option linter.unusedSimpArgs false
set_option linter.unusedVariables false
namespace Go.Am.Ct
open Go.Proofs Go.Am.Ap
set_option maxRecDepth 100000
set_option maxHeartbeats 2000000

variable {bs : List D} {j : Nat} {c : Cod} {l : List Akt} {a : Akt} {F : Nat → Prop}

structure CodOk (c : Cod) : Prop where
 arts : c.arts.length ≤ 500
 cars : 1 ≤ c.cars ∧ c.cars ≤ 200
 window : 0 ≤ c.window ∧ c.window ≤ 10000
 second : 0 ≤ c.second ∧ c.second ≤ 10000
 fee : 0 ≤ c.fee ∧ c.fee ≤ 1000000000
 price : 0 ≤ c.price ∧ c.price ≤ 1000000000

theorem codOk_of (h : okCode c = true) : CodOk c := by
 unfold okCode headBad at h
 simp only [Bool.and_eq_true, Bool.not_eq_true', Bool.or_eq_false_iff, Bool.not_eq_false', inR, decide_eq_true_eq] at h
 obtain ⟨⟨⟨⟨⟨⟨h1, h2⟩, h3⟩, h4⟩, h5⟩, h6⟩, _⟩ := h
 exact ⟨by omega, h1, h3, h4, h5, h6⟩

theorem lastSt_eq (h : Inv c l) (hs : 0 ≤ c.second) {k p : Nat} (hp : (pro l)[k]? = some p) :
  lastSt c l (idxOf l k p) = if 0 ≤ rlast l 6 k MM then 2 else if 0 ≤ rlast l 5 k MM then 5 else if 0 ≤ rlast l 4 k MM then 4 else if 0 ≤ rlast l 3 k MM then 3 else 1 := by
 have s := h.shape k
 have s1 := s.dx
 have s2 := s.da
 have s3 := s.aj
 have s4 := s.oa
 have s5 := s.oj
 have l3 := (rlast_lt l 3 k MM).2
 have l4 := (rlast_lt l 4 k MM).2
 have l5 := (rlast_lt l 5 k MM).2
 have l6 := (rlast_lt l 6 k MM).2
 have hpl := pro_lt hp
 have mono : ∀ x y : Nat, x ≤ y → y < l.length → (nth l x).minute ≤ (nth l y).minute := h.sorted
 have aft := h.after k p hp
 have minM : ∀ i, (nth l i).minute ≤ MM := fun i => by have := h.mins.nth i; unfold MM; omega
 have opos : ∀ {x : Int}, 0 ≤ x → opt x = [x.toNat] := fun hx => by unfold opt; rw [if_pos hx]
 unfold lastSt
 by_cases h6 : 0 ≤ rlast l 6 k MM
 ·skip
  have e : (idxOf l k p).getLast?.getD 0 = (rlast l 6 k MM).toNat := by
   unfold idxOf
   rw [opt_neg (show rlast l 3 k MM < 0 by omega), opt_neg (show rlast l 4 k MM < 0 by omega), opt_neg (show rlast l 5 k MM < 0 by omega), opos h6]
   simp
  have := aft 6 (by omega) h6
  rw [e, state_eq h hp (minM _) (mono _ _ (by omega) (by omega))]
  unfold stR
  simp only [rl_m h (by omega : (3 : Int) ≤ 6) (minM _), rl_m h (by omega : (3 : Int) ≤ 5) (minM _), rl_m h (by omega : (3 : Int) ≤ 4) (minM _), rl_m h (by omega : (3 : Int) ≤ 3) (minM _)]
  simp [h6]
 ·by_cases h5 : 0 ≤ rlast l 5 k MM
  ·have h4 : 0 ≤ rlast l 4 k MM := by omega
   have h3 : 0 ≤ rlast l 3 k MM := by omega
   have e : (idxOf l k p).getLast?.getD 0 = (rlast l 5 k MM).toNat := by
    unfold idxOf
    rw [opos h3, opos h4, opos h5, opt_neg (show rlast l 6 k MM < 0 by omega)]
    simp
   have := aft 5 (by omega) h5
   rw [e, state_eq h hp (minM _) (mono _ _ (by omega) (by omega))]
   unfold stR
   simp only [rl_m h (by omega : (3 : Int) ≤ 6) (minM _), rl_m h (by omega : (3 : Int) ≤ 5) (minM _), rl_m h (by omega : (3 : Int) ≤ 4) (minM _), rl_m h (by omega : (3 : Int) ≤ 3) (minM _)]
   simp [h6, h5]
  ·by_cases h4 : 0 ≤ rlast l 4 k MM
   ·have h3 : 0 ≤ rlast l 3 k MM := by omega
    have e : (idxOf l k p).getLast?.getD 0 = (rlast l 4 k MM).toNat := by
     unfold idxOf
     rw [opos h3, opos h4, opt_neg (show rlast l 5 k MM < 0 by omega), opt_neg (show rlast l 6 k MM < 0 by omega)]
     simp
    have := aft 4 (by omega) h4
    rw [e, state_eq h hp (minM _) (mono _ _ (by omega) (by omega))]
    unfold stR
    simp only [rl_m h (by omega : (3 : Int) ≤ 6) (minM _), rl_m h (by omega : (3 : Int) ≤ 5) (minM _), rl_m h (by omega : (3 : Int) ≤ 4) (minM _), rl_m h (by omega : (3 : Int) ≤ 3) (minM _)]
    simp [h6, h5, h4]
   ·by_cases h3 : 0 ≤ rlast l 3 k MM
    ·have : ¬ c.second < 0 := by omega
     have hn3 : ¬ rlast l 3 k MM < 0 := by omega
     have e : (idxOf l k p).getLast?.getD 0 = (rlast l 3 k MM).toNat := by
      unfold idxOf
      rw [opos h3, opt_neg (show rlast l 4 k MM < 0 by omega), opt_neg (show rlast l 5 k MM < 0 by omega), opt_neg (show rlast l 6 k MM < 0 by omega)]
      simp
     have := aft 3 (by omega) h3
     rw [e, state_eq h hp (minM _) (mono _ _ (by omega) (by omega))]
     unfold stR
     simp only [rl_m h (by omega : (3 : Int) ≤ 6) (minM _), rl_m h (by omega : (3 : Int) ≤ 5) (minM _), rl_m h (by omega : (3 : Int) ≤ 4) (minM _), rl_m h (by omega : (3 : Int) ≤ 3) (minM _)]
     simp [h6, h5, h4, h3, hn3, hs]
    ·skip
     have e : (idxOf l k p).getLast?.getD 0 = p := by
      unfold idxOf
      rw [opt_neg (show rlast l 3 k MM < 0 by omega), opt_neg (show rlast l 4 k MM < 0 by omega), opt_neg (show rlast l 5 k MM < 0 by omega), opt_neg (show rlast l 6 k MM < 0 by omega)]
      simp
     rw [e, state_eq h hp (minM _) (Int.le_refl _)]
     unfold stR
     simp only [rl_m h (by omega : (3 : Int) ≤ 6) (minM _), rl_m h (by omega : (3 : Int) ≤ 5) (minM _), rl_m h (by omega : (3 : Int) ≤ 4) (minM _), rl_m h (by omega : (3 : Int) ≤ 3) (minM _)]
     simp [h6, h5, h4, h3]

theorem ver_of (hA : Acc c l) {k p : Nat} (hp : (pro l)[k]? = some p) : 0 ≤ ver c.arts (nth l p).article (nth l p).at_ c.arts.length := by
 have g := good_of (hA p (pro_lt hp))
 have := g.prt (pro_kind (List.mem_of_getElem? hp))
 rcases ver_spec c.arts (nth l p).article (nth l p).at_ c.arts.length with ⟨h1, h2⟩ | ⟨jj, v, h1, _⟩
 ·have := this.2.1
  rw [h2] at this
  cases this
 ·omega

theorem pen_fits {p : Nat} (hp : (pro l).getD a.cse.toNat 0 = p) : penBad c (nth l p) a = !fitsR c l a := by
 unfold penBad fitsR
 unfold pro at hp
 rw [hp]
 cases a.upheld <;> simp [bne]

def Court (bs : List D) (F : Nat → Prop) (j : Nat) (c : Cod) (l : List Akt) : Prop := ∃ sa sf fs, Crt bs F j c l (qOf l) sa sf fs

def doN (c : Cod) (l : List Akt) (a : Akt) : Int := if refused c l a ≠ 0 then 0 else if a.kind = 1 then -1 else if a.kind = 2 then (pro l).length else a.cse
def doL (c : Cod) (l : List Akt) (a : Akt) : List Akt := if refused c l a = 0 then l ++ [a] else l

theorem Crt.caseAt {B : List D} {sa sf : D} {fs : List (Int × D)} (h : Crt B F j c l (qOf l) sa sf fs) (hA : Acc c l) {k p : Nat} (hp : (pro l)[k]? = some p) : ∃ s, CaseAt B c l fs k p s (idxOf l k p) := by
 obtain ⟨s, h1, h2⟩ := h.case k p _ (qOf_get hp)
 exact ⟨s, h1, h2, idx_lt hp, pro_lt hp, idx_ne, by have := idx_len (l := l) (k := k) (p := p); omega, ver_of hA hp⟩

theorem pubAt_b (hm : Mins l) (p : Int) : -1 ≤ pubAt l p ∧ pubAt l p ≤ 10000000 := by
 unfold pubAt
 split
 ·omega
 ·have := hm.nth (fi (isPub p) l).toNat
  omega

theorem mids (bs : List D) (F : Nat → Prop) (j : Nat) : Stp (mid bs j) F (mid bs j) F := Stp.refl _ _

theorem c26 (hA : Acc c l) (hc : CodOk c) (h : Court bs F j c l) (a : Akt) (ha : a.facts.length ≤ 1000000) :
  ∃ bs' F', FSpecWO Try.prog 26 (.st bs) [.loc j 0, a.d] (.ret (.tup [I (doN c l a), I (refused c l a)])) (.st bs') ∧ Stp bs F bs' F' ∧ Court bs' F' j c (doL c l a) := by
 obtain ⟨sa, sf, fs, h⟩ := h
 have hI := inv_of l hA
 have hlen := hI.len
 have hca := hc.arts
 have hL : l.length ≤ 1000000 := by omega
 have nope : ∀ e, refused c l a = e → e ≠ 0 → (∃ bs', FSpecWO Try.prog 26 (.st bs) [.loc j 0, a.d] (.ret (.tup [I 0, I e])) (.st bs') ∧ Stp bs F bs' F ∧ Crt bs' F j c l (qOf l) sa sf fs) → ∃ bs' F', FSpecWO Try.prog 26 (.st bs) [.loc j 0, a.d] (.ret (.tup [I (doN c l a), I (refused c l a)])) (.st bs') ∧ Stp bs F bs' F' ∧ Court bs' F' j c (doL c l a) := by
  rintro e he h0 ⟨bs', h1, h2, h3⟩
  unfold doN doL
  rw [he, if_pos h0, if_neg h0]
  exact ⟨bs', F, h1, h2, sa, sf, fs, h3⟩
 cases hbad : (!actOk c.cars a || early l a)
 rotate_left
 ·refine nope 2 ?_ (by omega) (c26arg h hL a ha hbad)
  unfold refused
  rw [if_pos]
  unfold early at hbad
  simp only [Bool.or_eq_true, Bool.not_eq_true', Bool.and_eq_true, decide_eq_true_eq] at hbad
  rcases hbad with hb | hb
  ·exact .inl hb
  ·exact .inr ⟨by omega, hb.2⟩
 have hbad' := hbad
 unfold early at hbad
 simp only [Bool.or_eq_false_iff, Bool.not_eq_false', Bool.and_eq_false_iff, decide_eq_false_iff_not] at hbad
 have hok := hbad.1
 have hnl : ¬ (actOk c.cars a = false ∨ 0 < l.length ∧ a.minute < (nth l (l.length - 1)).minute) := by
  rintro (hh | hh)
  ·rw [hok] at hh; cases hh
  ·rcases hbad.2 with h1 | h1 <;> omega
 have hR : refused c l a = if 2000 ≤ l.length then 4 else refused c l a := by
  split
  ·unfold refused; rw [if_neg hnl, if_pos (by omega)]
  ·rfl
 by_cases hm : 2000 ≤ l.length
 ·exact nope 4 (by rw [hR, if_pos hm]) (by omega) (c26long h hL a ha hbad' hm)
 have hm' : l.length < 2000 := by omega
 have hk := actOk_kind hok
 have hmin := actOk_minute hok
 have hmid := h.mid (j := j)
 have hpb := pubAt_b hI.mins a.paper
 have hql : (qOf l).length ≤ 1000000 := by rw [qOf_len]; have := prot_len l l.length; unfold pro; omega
 rcases hk with e | e | ⟨e, hcs⟩
 ·-- a paper
  have hg : D.mlook .int (I a.kind) (kents j) = some (some (0, .fn 64 [.loc j 0] [])) := by rw [e]; rfl
  have h64 := c64 hmid.acts hL a
  have hp : 0 ≤ pubAt l a.paper ↔ 0 ≤ fi (isPub a.paper) l := by
   unfold pubAt
   have := hI.mins.nth (fi (isPub a.paper) l).toNat
   split <;> omega
  have hr : refused c l a = if 0 ≤ fi (isPub a.paper) l then 6 else 0 := by unfold refused; rw [if_neg hnl, if_neg hm, if_pos e]
  by_cases h0 : 0 ≤ fi (isPub a.paper) l
  ·rw [if_pos (hp.2 h0)] at h64
   exact nope 6 (by rw [hr, if_pos h0]) (by omega) (c26pan h hL a ha hbad' hm' hg (by kernel_rfl) h64)
  ·rw [if_neg (fun hh => h0 (hp.1 hh))] at h64
   rw [if_neg h0] at hr
   have g := good_of hr
   obtain ⟨bs', F', sa', h1, h2, h3⟩ := c26pub h hL a ha hbad' hm' hg (by kernel_rfl) rfl ⟨h64, mids _ _ _, hmid⟩
   unfold doN doL
   rw [hr, if_neg (by omega), if_pos e, if_pos rfl]
   exact ⟨bs', F', h1, h2, sa', sf, fs, by rw [q_pub g e]; exact h3⟩
 ·-- a protest
  have hg : D.mlook .int (I a.kind) (kents j) = some (some (1, .fn 65 [.loc j 0] [])) := by rw [e]; rfl
  have hv : ver c.arts a.article a.at_ c.arts.length < 0 ↔ (verArt c.arts a.article a.at_ c.arts.length).isSome = false := by
   rcases ver_spec c.arts a.article a.at_ c.arts.length with ⟨h1, h2⟩ | ⟨jj, v, h1, _, h2⟩
   ·rw [h1, h2]; simp
   ·rw [h1, h2]; simp
  have hr : refused c l a = proR c l a := by
   unfold refused proR
   rw [if_neg hnl, if_neg hm, if_neg (by omega), if_pos e]
   have h2 := hI.mins.nth (fi (isPub a.paper) l).toNat
   unfold pubAt
   by_cases h0 : fi (isPub a.paper) l < 0
   ·rw [if_pos (.inl h0), if_pos h0, if_pos (.inl (by omega))]
   ·rw [if_neg h0]
    by_cases h1 : (verArt c.arts a.article a.at_ c.arts.length).isSome = false
    ·rw [if_pos (.inr h1), if_pos (.inr (hv.2 h1))]
    ·rw [if_neg (show ¬ (fi (isPub a.paper) l < 0 ∨ (verArt c.arts a.article a.at_ c.arts.length).isSome = false) from fun hh => hh.elim h0 h1), if_neg (show ¬ ((nth l (fi (isPub a.paper) l).toNat).minute < 0 ∨ ver c.arts a.article a.at_ c.arts.length < 0) from fun hh => hh.elim (fun h4 => by omega) fun h4 => h1 (hv.1 h4))]
  by_cases h0 : proR c l a = 0
  ·obtain ⟨C, F4, h1, h2, h3⟩ := c65y hmid (by omega) hL hql a hpb hmin h0
   have hrr := hr.trans h0
   have g := good_of hrr
   obtain ⟨bs', F', sa', fs', g1, g2, g3⟩ := c26upd h hL a ha hbad' hm' hg (by kernel_rfl) (k := (qOf l).length) (p := l.length) (idx := []) rfl (by rw [List.getElem?_append_right (Nat.le_refl _)]; simp) (by simp) ⟨h1, h2, h3⟩
   unfold doN doL
   rw [hrr, if_neg (by omega), if_neg (by omega), if_pos e, if_pos rfl]
   rw [qOf_len] at g1
   refine ⟨bs', F', g1, g2, sa', .sl (mid bs j).length 0 (fs.length + 1), fs', ?_⟩
   rw [q_pro hI g e]
   have : ((qOf l ++ [(l.length, [])]).set (qOf l).length (l.length, [] ++ [l.length])) = qOf l ++ [(l.length, [l.length])] := by
    rw [List.set_append_right _ _ (Nat.le_refl _)]; simp
   rw [← this]
   exact g3
  ·have h65 := c65n hmid (by omega) hL a hpb hmin h0
   exact nope _ hr h0 (c26pan h hL a ha hbad' hm' hg (by kernel_rfl) h65)
 ·-- an act of a case
  have hnk : ¬ a.kind = 1 ∧ ¬ a.kind = 2 := by omega
  by_cases hlen5 : ((prot l l.length).length : Int) ≤ a.cse
  ·have hr : refused c l a = 5 := by unfold refused; rw [if_neg hnl, if_neg hm, if_neg hnk.1, if_neg hnk.2, if_pos hlen5]
   have hfl : (fs.length : Int) ≤ a.cse := by rw [h.len, qOf_len]; exact hlen5
   rcases e with e | e | e | e
   ·exact nope 5 hr (by omega) (c26pan h hL a ha hbad' hm' (i := 2) (f := 66) (by rw [e]; rfl) (by kernel_rfl) (c66n hmid.acts hmid.files a hfl))
   ·exact nope 5 hr (by omega) (c26pan h hL a ha hbad' hm' (i := 3) (f := 67) (by rw [e]; rfl) (by kernel_rfl) (c67n hmid.acts hmid.files a hfl))
   ·exact nope 5 hr (by omega) (c26pan h hL a ha hbad' hm' (i := 4) (f := 68) (by rw [e]; rfl) (by kernel_rfl) (c68n hmid.acts hmid.files a hfl))
   ·exact nope 5 hr (by omega) (c26pan h hL a ha hbad' hm' (i := 5) (f := 69) (by rw [e]; rfl) (by kernel_rfl) (c69n hmid.acts hmid.files a hfl))
  obtain ⟨k, hck⟩ : ∃ k : Nat, a.cse = k := ⟨a.cse.toNat, by omega⟩
  obtain ⟨p, hp⟩ : ∃ p, (pro l)[k]? = some p := ⟨_, List.getElem?_eq_getElem (by unfold pro; omega)⟩
  obtain ⟨s, hF⟩ := hmid.caseAt hA hp
  have hgd : (pro l).getD a.cse.toNat 0 = p := by rw [hck]; simp [hp]
  have hlast := lastSt_eq hI hc.second.1 hp
  have hpen := pen_fits (c := c) hgd
  have hs := hI.shape k
  have s1 := hs.dx
  have s2 := hs.da
  have s3 := hs.aj
  have done : refused c l a = 0 → ∀ {f i : Nat}, D.mlook .int (I a.kind) (kents j) = some (some (i, .fn f [.loc j 0] [])) → callable Try.prog f = true → FSpecWO Try.prog f (.st (mid bs j)) [.loc j 0, a.d] (.ret (I a.cse)) (.st (mid bs j)) → ∃ bs' F', FSpecWO Try.prog 26 (.st bs) [.loc j 0, a.d] (.ret (.tup [I (doN c l a), I (refused c l a)])) (.st bs') ∧ Stp bs F bs' F' ∧ Court bs' F' j c (doL c l a) := by
   intro hr f i hg hcl hsp
   have g := good_of hr
   obtain ⟨bs', F', sa', fs', g1, g2, g3⟩ := c26upd h hL a ha hbad' hm' hg hcl hck (qOf_get hp) (by have := idx_len (l := l) (k := k) (p := p); omega) ⟨hsp, mids _ _ _, hmid⟩
   unfold doN doL
   rw [hr, if_neg (by omega), if_neg hnk.1, if_neg hnk.2, if_pos rfl]
   exact ⟨bs', F', g1, g2, sa', _, fs', by rw [q_upd hI g (by omega) hck hp]; exact g3⟩
  have hrr : ∀ {x : Int}, (let pr := nth l ((prot l l.length).getD a.cse.toNat 0)
    let x := rlast l 6 a.cse 10000000
    let d := rlast l 3 a.cse 10000000
    let ap := rlast l 4 a.cse 10000000
    let ju := rlast l 5 a.cse 10000000
    if a.kind = 3 then (if 0 ≤ x ∨ 0 ≤ d then 6 else if fitsR c l a = false then 7 else 0)
    else if a.kind = 4 then (if d < 0 ∨ 0 ≤ ap then 6 else if a.by_ ≠ pr.by_ ∧ a.by_ ≠ pr.against then 7 else if c.second < a.minute - (nth l d.toNat).minute then 8 else if a.paid ≠ c.price then 7 else 0)
    else if a.kind = 5 then (if ap < 0 ∨ 0 ≤ ju then 6 else if fitsR c l a = false then 7 else 0)
    else (if 0 ≤ x ∨ 0 ≤ d then 6 else if a.by_ ≠ pr.by_ then 7 else 0)) = x → refused c l a = x := by
   intro x hx
   unfold refused
   rw [if_neg hnl, if_neg hm, if_neg hnk.1, if_neg hnk.2, if_neg hlen5]
   exact hx
  rcases e with e | e | e | e
  ·have hg : D.mlook .int (I a.kind) (kents j) = some (some (2, .fn 66 [.loc j 0] [])) := by rw [e]; rfl
   have hsp := c66 hmid.acts (by omega) hI.mins hmid.files hF a hck
   rw [hpen] at hsp
   by_cases hx : 0 ≤ rlast l 6 k MM ∨ 0 ≤ rlast l 3 k MM
   ·have hl1 : lastSt c l (idxOf l k p) ≠ 1 := by rw [hlast]; repeat' split <;> omega
    rw [if_pos hl1] at hsp
    exact nope 6 (hrr (by simp only [e, hck]; rw [if_pos trivial, if_pos (by unfold MM at hx; exact hx)])) (by omega) (c26pan h hL a ha hbad' hm' hg (by kernel_rfl) hsp)
   ·have hl1 : ¬ lastSt c l (idxOf l k p) ≠ 1 := by rw [hlast]; repeat' split <;> omega
    rw [if_neg hl1] at hsp
    cases hfit : fitsR c l a
    ·rw [hfit, if_pos (show (!false) = true from rfl)] at hsp
     exact nope 7 (hrr (by simp only [e, hck]; rw [if_pos trivial, if_neg (by unfold MM at hx; exact hx), if_pos hfit])) (by omega) (c26pan h hL a ha hbad' hm' hg (by kernel_rfl) hsp)
    ·rw [hfit, if_neg (by decide)] at hsp
     exact done (hrr (by simp only [e, hck]; rw [if_pos trivial, if_neg (by unfold MM at hx; exact hx), if_neg (by rw [hfit]; decide)])) hg (by kernel_rfl) hsp
  ·have hg : D.mlook .int (I a.kind) (kents j) = some (some (3, .fn 67 [.loc j 0] [])) := by rw [e]; rfl
   have hsp := c67 hmid.acts hI.mins hmid.files hF a hck hmin
   have hr : refused c l a = appR c l p (idxOf l k p) a := by
    refine hrr ?_
    have hgd' : (prot l l.length).getD a.cse.toNat 0 = p := hgd
    simp only [hgd']
    simp only [e, hck]
    rw [if_neg (by omega), if_pos trivial]
    unfold appR
    by_cases hx : rlast l 3 k MM < 0 ∨ 0 ≤ rlast l 4 k MM
    ·have hl1 : lastSt c l (idxOf l k p) ≠ 3 := by rw [hlast]; repeat' split <;> omega
     rw [if_pos hl1, if_pos (by unfold MM at hx; exact hx)]
    ·have hl1 : ¬ lastSt c l (idxOf l k p) ≠ 3 := by rw [hlast]; repeat' split <;> omega
     have hle : (idxOf l k p).getLast?.getD 0 = (rlast l 3 k MM).toNat := by
      unfold idxOf
      rw [show opt (rlast l 3 k MM) = [(rlast l 3 k MM).toNat] by unfold opt; rw [if_pos (by omega)], opt_neg (show rlast l 6 k MM < 0 by omega), opt_neg (show rlast l 5 k MM < 0 by omega), opt_neg (show rlast l 4 k MM < 0 by omega)]
      simp
     rw [if_neg hl1, if_neg (by unfold MM at hx; exact hx), hle]
   rw [← hr] at hsp
   by_cases h0 : refused c l a = 0
   ·rw [if_neg (fun hh => hh h0)] at hsp
    exact done h0 hg (by kernel_rfl) hsp
   ·rw [if_pos h0] at hsp
    exact nope _ rfl h0 (c26pan h hL a ha hbad' hm' hg (by kernel_rfl) hsp)
  ·have hg : D.mlook .int (I a.kind) (kents j) = some (some (4, .fn 68 [.loc j 0] [])) := by rw [e]; rfl
   have hsp := c68 hmid.acts (by omega) hI.mins hmid.files hF a hck
   rw [hpen] at hsp
   by_cases hx : rlast l 4 k MM < 0 ∨ 0 ≤ rlast l 5 k MM
   ·have hl1 : lastSt c l (idxOf l k p) ≠ 4 := by rw [hlast]; repeat' split <;> omega
    rw [if_pos hl1] at hsp
    exact nope 6 (hrr (by simp only [e, hck]; rw [if_neg (by omega), if_neg (by omega), if_pos trivial, if_pos (by unfold MM at hx; exact hx)])) (by omega) (c26pan h hL a ha hbad' hm' hg (by kernel_rfl) hsp)
   ·have hl1 : ¬ lastSt c l (idxOf l k p) ≠ 4 := by rw [hlast]; repeat' split <;> omega
    rw [if_neg hl1] at hsp
    cases hfit : fitsR c l a
    ·rw [hfit, if_pos (show (!false) = true from rfl)] at hsp
     exact nope 7 (hrr (by simp only [e, hck]; rw [if_neg (by omega), if_neg (by omega), if_pos trivial, if_neg (by unfold MM at hx; exact hx), if_pos hfit])) (by omega) (c26pan h hL a ha hbad' hm' hg (by kernel_rfl) hsp)
    ·rw [hfit, if_neg (by decide)] at hsp
     exact done (hrr (by simp only [e, hck]; rw [if_neg (by omega), if_neg (by omega), if_pos trivial, if_neg (by unfold MM at hx; exact hx), if_neg (by rw [hfit]; decide)])) hg (by kernel_rfl) hsp
  ·have hg : D.mlook .int (I a.kind) (kents j) = some (some (5, .fn 69 [.loc j 0] [])) := by rw [e]; rfl
   have hsp := c69 hmid.acts hI.mins hmid.files hF a hck
   have hgd' : (prot l l.length).getD a.cse.toNat 0 = p := hgd
   by_cases hx : 0 ≤ rlast l 6 k MM ∨ 0 ≤ rlast l 3 k MM
   ·have hl1 : lastSt c l (idxOf l k p) ≠ 1 := by rw [hlast]; repeat' split <;> omega
    rw [if_pos hl1] at hsp
    exact nope 6 (hrr (by simp only [e, hck]; rw [if_neg (by omega), if_neg (by omega), if_neg (by omega), if_pos (by unfold MM at hx; exact hx)])) (by omega) (c26pan h hL a ha hbad' hm' hg (by kernel_rfl) hsp)
   ·have hl1 : ¬ lastSt c l (idxOf l k p) ≠ 1 := by rw [hlast]; repeat' split <;> omega
    rw [if_neg hl1] at hsp
    by_cases hb : a.by_ ≠ (nth l p).by_
    ·rw [if_pos hb] at hsp
     exact nope 7 (hrr (by simp only [hgd']; simp only [e, hck]; rw [if_neg (by omega), if_neg (by omega), if_neg (by omega), if_neg (by unfold MM at hx; exact hx), if_pos hb])) (by omega) (c26pan h hL a ha hbad' hm' hg (by kernel_rfl) hsp)
    ·rw [if_neg hb] at hsp
     exact done (hrr (by simp only [hgd']; simp only [e, hck]; rw [if_neg (by omega), if_neg (by omega), if_neg (by omega), if_neg (by unfold MM at hx; exact hx), if_neg hb])) hg (by kernel_rfl) hsp

end Go.Am.Ct
