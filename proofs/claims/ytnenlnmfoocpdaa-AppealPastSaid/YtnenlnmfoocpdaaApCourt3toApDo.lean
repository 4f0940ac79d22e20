/-
  Several texts, one behind the other.
-/
import Derived.Test.YtnenlnmfoocpdaaApU3toApStep
import Derived.Test.YtnenlnmfoocpdaaAmEvaltoAmSt2
set_option linter.unusedSimpArgs false
set_option linter.unusedVariables false
/-
 What the court does with acts.
-/
namespace Go.Am.Ct
set_option maxRecDepth 100000
set_option maxHeartbeats 4000000
open Go.Proofs Go.Am.Ap

variable {bs : List D} {j : Nat} {c : Cod} {l : List Akt} {sa sf : D} {fs : List (Int × D)}

attribute [local irreducible] inR

theorem c63n {n m : Nat} : FSpecD Try.prog 63 (.st bs) [.loc n 0, .loc m 0] none (.st bs) := by
 refine ku63.recoverD (d0 := .tup []) rfl rfl ?_
 unfold u63
 simp only [ups_cons, ups_nil, List.cons_append, List.nil_append]
 repeat' (first | ((with_reducible apply nrm); (· simp only [sbe]; rfl)) | ((with_reducible apply u_ev); (· rfl); (· simp only [sbe]; rfl)) | (with_reducible refine u_join ?_) | ((with_reducible apply u_jump); (· rfl); (· rfl)) | (with_reducible refine at_jump ?_) | (with_reducible refine kj rfl ?_) | ((with_reducible apply u_ite); (· rfl); all_goals (intro hz; (try simp only [sbs] at hz); first | (exact absurd hz (by decide)) | (exfalso; omega) | skip)) | (with_reducible exact u_ret rfl rfl))

theorem c63p {n m : Nat} {x y : D} {e : Int} (hn : bs[n]? = some (.blk 3 1 [x])) (hm : bs[m]? = some (.blk 24 1 [y])) (hne : n ≠ m) : FSpecD Try.prog 63 (.st bs) [.loc n 0, .loc m 0] (some (refusal e)) (.st ((bs.set n (.blk 3 1 [I 0])).set m (.blk 24 1 [I e]))) := by
 refine ku63.recoverD (d0 := .tup []) rfl rfl ?_
 unfold u63
 simp only [ups_cons, ups_nil, List.cons_append, List.nil_append]
 have h1 := sto_blk (k := 0) hn (by simp) (d := I 0) rfl
 have h2 := sto_blk (bs := bs.set n (.blk 3 1 [I 0])) (k := 0) (by rw [set_get_ne hne]; exact hm) (by simp) (d := I e) rfl
 repeat' (first | ((with_reducible apply nrm); (· simp only [sbe]; rfl)) | ((with_reducible apply u_chk); (· rfl)) | ((with_reducible apply u_sto); (· rfl); (· rfl); (· rfl); (· first | exact h1 | exact h2); (· simp only [sbe]; rfl)) | ((with_reducible apply u_ev); (· rfl); (· simp only [sbe]; rfl)) | (with_reducible refine u_join ?_) | ((with_reducible apply u_jump); (· rfl); (· rfl)) | (with_reducible refine at_jump ?_) | (with_reducible refine kj rfl ?_) | ((with_reducible apply u_ite); (· rfl); all_goals (intro hz; (try simp only [sbs] at hz); first | (exact absurd hz (by decide)) | (exfalso; omega) | skip)) | (with_reducible exact u_ret rfl rfl))

structure Crt (bs : List D) (F : Nat → Prop) (j : Nat) (c : Cod) (l : List Akt) (q : List (Nat × List Nat)) (sa sf : D) (fs : List (Int × D)) : Prop where
 acts : ActsAt bs j c l sa sf
 files : SlOf bs 115 2 fcs sf fs
 len : fs.length = q.length
 case : ∀ (k p : Nat) (idx : List Nat), q[k]? = some (p, idx) → ∃ s, fs[k]? = some (↑p, s) ∧ SlOf bs 3 1 ncs s idx
 inj : ∀ (k k' : Nat) (f f' : Int × D) (i : Nat), fs[k]? = some f → fs[k']? = some f' → D.sid f.2 = some i → D.sid f'.2 = some i → k = k'
 fj : F j
 fa : ∀ i, sa.sid = some i → F i
 ff : ∀ i, sf.sid = some i → F i
 fc : ∀ (k : Nat) (f : Int × D) (i : Nat), fs[k]? = some f → D.sid f.2 = some i → F i
 lt : ∀ k, F k → k < bs.length

theorem Crt.keep {bs' : List D} {F : Nat → Prop} {q : List (Nat × List Nat)} (h : Crt bs F j c l q sa sf fs) (hl : bs.length ≤ bs'.length) (hk : ∀ k, F k → bs'[k]? = bs[k]?) : Crt bs' F j c l q sa sf fs where
 acts := ⟨by rw [hk _ h.fj]; exact h.acts.1, h.acts.2.keep fun i hi => hk _ (h.fa i hi)⟩
 files := h.files.keep fun i hi => hk _ (h.ff i hi)
 len := h.len
 case := fun k p idx hq => by
  obtain ⟨s, h1, h2⟩ := h.case k p idx hq
  exact ⟨s, h1, h2.keep fun i hi => hk _ (h.fc k _ i h1 hi)⟩
 inj := h.inj
 fj := h.fj
 fa := h.fa
 ff := h.ff
 fc := h.fc
 lt := fun k hk' => Nat.lt_of_lt_of_le (h.lt k hk') hl

theorem Crt.more {F : Nat → Prop} {q : List (Nat × List Nat)} (h : Crt bs F j c l q sa sf fs) (r : List D) : Crt (bs ++ r) F j c l q sa sf fs :=
 h.keep (by simp) fun k hk => List.getElem?_append_left (h.lt k hk)

def proR (c : Cod) (l : List Akt) (a : Akt) : Int :=
 if pubAt l a.paper < 0 ∨ ver c.arts a.article a.at_ c.arts.length < 0 then 5 else if c.window < a.minute - pubAt l a.paper then 8 else if a.paid ≠ c.fee then 7 else 0

theorem c65n {F : Nat → Prop} {q : List (Nat × List Nat)} (h : Crt bs F j c l q sa sf fs) (hc : c.arts.length ≤ 1000) (hL : l.length ≤ 1000000) (a : Akt) (hpm : -1 ≤ pubAt l a.paper ∧ pubAt l a.paper ≤ 10000000) (ham : inR a.minute 0 10000000 = true) (hr : proR c l a ≠ 0) :
  FSpecWO Try.prog 65 (.st bs) [.loc j 0, a.d] (.pan (refusal (proR c l a))) (.st bs) := by
 refine ku65.writeO rfl ?_
 unfold u65
 simp only [ups_cons, ups_nil, List.cons_append, List.nil_append]
 have h97 := c97 h.acts hL a.paper
 have h81 := c81 (bs := bs) c a.article a.at_ hc
 have ham' : 0 ≤ a.minute ∧ a.minute ≤ 10000000 := by unfold inR at ham; simpa using ham
 unfold proR at hr ⊢
 by_cases h1 : pubAt l a.paper < 0 ∨ ver c.arts a.article a.at_ c.arts.length < 0
 ·simp only [if_pos h1]
  repeat' (first | ((with_reducible apply nrm); (· simp only [sbe]; rfl)) | ((with_reducible apply u_chk); (· rfl)) | ((with_reducible apply u_ld); (· rfl); (· rfl); (· exact ldN_blk h.acts.1 (Nat.le_of_ble_eq_true rfl)); (· simp only [sbe]; rfl)) | ((with_reducible apply u_ev); (· rfl); (· simp only [sbe]; rfl)) | ((with_reducible apply u_call); (· rfl); (· rfl); (· first | exact h97 | exact h81); (· rfl); (· simp only [sbe]; rfl)) | ((with_reducible apply u_pcallP); (· rfl); (· rfl); (· exact c96y (by simpa using h1) _); (· rfl); (· exact ⟨_, _, rfl⟩)) | ((with_reducible apply u_or); (· rfl)) | (with_reducible exact u_ret rfl rfl) | ((with_reducible intro hz); (try simp only [sbs] at hz)))
 ·simp only [if_neg h1] at hr ⊢
  have h1' : (decide (pubAt l a.paper < 0) || !decide (0 ≤ ver c.arts a.article a.at_ c.arts.length)) = false := by simpa using h1
  by_cases h2 : c.window < a.minute - pubAt l a.paper
  ·simp only [if_pos h2]
   repeat' (first | ((with_reducible apply nrm); (· simp only [sbe]; rfl)) | ((with_reducible apply u_chk); (· rfl)) | ((with_reducible apply u_ld); (· rfl); (· rfl); (· first | exact ldN_blk h.acts.1 (Nat.le_of_ble_eq_true rfl) | exact ld_blk h.acts.1 rfl); (· simp only [sbe]; rfl)) | ((with_reducible apply u_sub); (· rfl); (· rfl); (· omega); (· simp only [sbe]; rfl)) | ((with_reducible apply u_ev); (· rfl); (· simp only [sbe]; rfl)) | ((with_reducible apply u_call); (· rfl); (· rfl); (· first | exact h97 | exact h81); (· rfl); (· simp only [sbe]; rfl)) | ((with_reducible apply u_pcallR); (· rfl); (· rfl); (· exact c96n h1' _); (· rfl); (· simp only [sbe]; rfl)) | ((with_reducible apply u_pcallP); (· rfl); (· rfl); (· exact c96y (decide_eq_true h2) _); (· rfl); (· exact ⟨_, _, rfl⟩)) | ((with_reducible apply u_or); (· rfl)) | (with_reducible exact u_ret rfl rfl) | ((with_reducible intro hz); (try simp only [sbs] at hz)))
  ·simp only [if_neg h2] at hr ⊢
   by_cases h3 : a.paid ≠ c.fee
   ·simp only [if_pos h3]
    repeat' (first | ((with_reducible apply nrm); (· simp only [sbe]; rfl)) | ((with_reducible apply u_chk); (· rfl)) | ((with_reducible apply u_ld); (· rfl); (· rfl); (· first | exact ldN_blk h.acts.1 (Nat.le_of_ble_eq_true rfl) | exact ld_blk h.acts.1 rfl); (· simp only [sbe]; rfl)) | ((with_reducible apply u_sub); (· rfl); (· rfl); (· omega); (· simp only [sbe]; rfl)) | ((with_reducible apply u_ev); (· rfl); (· simp only [sbe]; rfl)) | ((with_reducible apply u_call); (· rfl); (· rfl); (· first | exact h97 | exact h81); (· rfl); (· simp only [sbe]; rfl)) | ((with_reducible apply u_pcallR); (· rfl); (· rfl); (· first | exact c96n h1' _ | exact c96n (decide_eq_false h2) _); (· rfl); (· simp only [sbe]; rfl)) | ((with_reducible apply u_pcallP); (· rfl); (· rfl); (· exact c96y (by simpa using h3) _); (· rfl); (· exact ⟨_, _, rfl⟩)) | ((with_reducible apply u_or); (· rfl)) | (with_reducible exact u_ret rfl rfl) | ((with_reducible intro hz); (try simp only [sbs] at hz)))
   ·simp [h3] at hr

theorem c65y {F : Nat → Prop} {q : List (Nat × List Nat)} (h : Crt bs F j c l q sa sf fs) (hc : c.arts.length ≤ 1000) (hL : l.length ≤ 1000000) (hq : q.length ≤ 1000000) (a : Akt) (hpm : -1 ≤ pubAt l a.paper ∧ pubAt l a.paper ≤ 10000000) (ham : inR a.minute 0 10000000 = true) (hr : proR c l a = 0) :
  ∃ bs' F', FSpecWO Try.prog 65 (.st bs) [.loc j 0, a.d] (.ret (I q.length)) (.st bs') ∧ Stp bs F bs' F' ∧ Crt bs' F' j c l (q ++ [(l.length, [])]) sa (.sl bs.length 0 (fs.length + 1)) (fs ++ [((l.length : Int), .snil)]) := by
 have h97 := c97 h.acts hL a.paper
 have h81 := c81 (bs := bs) c a.article a.at_ hc
 have ham' : 0 ≤ a.minute ∧ a.minute ≤ 10000000 := by unfold inR at ham; simpa using ham
 unfold proR at hr
 have h1 : ¬ (pubAt l a.paper < 0 ∨ ver c.arts a.article a.at_ c.arts.length < 0) := fun hh => by simp [hh] at hr
 simp only [if_neg h1] at hr
 have h2 : ¬ c.window < a.minute - pubAt l a.paper := fun hh => by simp [hh] at hr
 simp only [if_neg h2] at hr
 have h3 : ¬ a.paid ≠ c.fee := fun hh => by simp [hh] at hr
 have h1' : (decide (pubAt l a.paper < 0) || !decide (0 ≤ ver c.arts a.article a.at_ c.arts.length)) = false := by simpa using h1
 have hfl := h.len
 obtain ⟨bs1, ga, gs, gn, gl, go⟩ := h.files.append (bytes := 32) (x := ((l.length : Int), D.snil)) (y := .agg [I l.length, .snil]) (fun _ => rfl) rfl rfl (by omega) (by unfold maxLen; omega)
 have hj1 : bs1[j]? = some (.blk 99 9 (crtCells c sa sf)) := by
  rw [go j (h.lt j h.fj) (fun hs => ?_)]
  ·exact h.acts.1
  ·rcases h.files with ⟨_, e⟩ | ⟨i, e, hi⟩
   ·rw [e] at hs; cases hs
   ·rw [e] at hs; cases hs
    rw [h.acts.1] at hi
    cases hi
 have g2 := sto_blk (k := 8) hj1 (by simp [crtCells]) (d := .sl bs.length 0 (fs.length + 1)) rfl
 have hjlt : j < bs1.length := (List.getElem?_eq_some_iff.1 hj1).1
 have hjb : j < bs.length := h.lt j h.fj
 have hj2 : (bs1.set j (.blk 99 9 ((crtCells c sa sf).set 8 (.sl bs.length 0 (fs.length + 1)))))[j]? = some (.blk 99 9 (crtCells c sa (.sl bs.length 0 (fs.length + 1)))) := by rw [set_get hjlt]; rfl
 refine ⟨bs1.set j (.blk 99 9 ((crtCells c sa sf).set 8 (.sl bs.length 0 (fs.length + 1)))), fun k => F k ∨ k = bs.length, ?_, ⟨by simp [gl], fun k hk hF => ?_, fun k hk => hk.elim .inl fun e => .inr (by omega)⟩, ?_⟩
 ·refine ku65.writeO rfl ?_
  unfold u65
  simp only [ups_cons, ups_nil, List.cons_append, List.nil_append]
  repeat' (first | ((with_reducible apply nrm); (· simp only [sbe]; rfl)) | ((with_reducible apply u_chk); (· rfl)) | ((with_reducible apply u_stoa); (· rfl); (· rfl); (· rfl); (· rfl); (· rfl); (· exact gs); (· exact g2); (· simp only [sbe]; rfl)) | ((with_reducible apply u_ld); (· rfl); (· rfl); (· first | exact ldN_blk h.acts.1 (Nat.le_of_ble_eq_true rfl) | exact ld_blk h.acts.1 rfl | exact ld_blk hj2 rfl); (· simp only [sbe]; rfl)) | ((with_reducible apply u_lenL); (· rfl); (· exact h.acts.2.len); (· simp only [sbe]; rfl)) | ((with_reducible apply u_apph); (· rfl); (· rfl); (· rfl); (· exact ga); (· simp only [sbe]; rfl)) | ((with_reducible apply u_pred); (· rfl); (· omega); (· simp only [sbe]; rfl)) | ((with_reducible apply u_sub); (· rfl); (· rfl); (· omega); (· simp only [sbe]; rfl)) | ((with_reducible apply u_ev); (· rfl); (· simp only [sbe]; rfl)) | ((with_reducible apply u_call); (· rfl); (· rfl); (· first | exact h97 | exact h81); (· rfl); (· simp only [sbe]; rfl)) | ((with_reducible apply u_pcallR); (· rfl); (· rfl); (· first | exact c96n h1' _ | exact c96n (decide_eq_false h2) _ | exact c96n (by simpa using h3) _); (· rfl); (· simp only [sbe]; rfl)) | ((with_reducible apply u_or); (· rfl)) | (with_reducible exact u_ret rfl rfl) | ((with_reducible apply u_ret); (· rfl); first | exact rfl | (refine retB ?_) | (refine retI ?_) | (refine retD ?_)) | ((with_reducible intro hz); (try simp only [sbs] at hz)))
  simp [hfl]
 ·rw [set_get_ne (fun e => hF (by rw [← e]; exact h.fj)), go k hk (fun hs => hF (h.ff k hs))]
 ·have hkeep : ∀ k, k < bs.length → k ≠ j → sf.sid ≠ some k → (bs1.set j (.blk 99 9 ((crtCells c sa sf).set 8 (.sl bs.length 0 (fs.length + 1)))))[k]? = bs[k]? := fun k h1 h2 h3 => by rw [set_get_ne (Ne.symm h2), go k h1 h3]
  have old : ∀ {α : Type} {e : TypeId} {sz : Nat} {enc : α → List D} {s : D} {xs : List α}, SlOf bs e sz enc s xs → e ≠ 99 → e ≠ 115 → SlOf (bs1.set j (.blk 99 9 ((crtCells c sa sf).set 8 (.sl bs.length 0 (fs.length + 1))))) e sz enc s xs := fun hs h1 h2 => hs.keep fun i hi => hkeep i (hs.lt hi) (hs.ne hi h.acts.1 h1) fun hf => hs.ne hi (h.files.blk hf) h2 rfl
  refine ⟨⟨hj2, old h.acts.2 (by decide) (by decide)⟩, .inr ⟨bs.length, by simp, by rw [set_get_ne (by omega)]; exact gn⟩, by simp [hfl], fun k p idx hq => ?_, fun k k' f f' i h1 h2 h3 h4 => ?_, .inl h.fj, fun i hi => .inl (h.fa i hi), fun i hi => .inr (by cases hi; rfl), fun k f i h1 h2 => ?_, fun k hk => ?_⟩
  ·rcases Nat.lt_or_ge k q.length with hk | hk
   ·rw [List.getElem?_append_left hk] at hq
    obtain ⟨s, g1, g2⟩ := h.case k p idx hq
    exact ⟨s, by rw [List.getElem?_append_left (by omega)]; exact g1, old g2 (by decide) (by decide)⟩
   ·rw [List.getElem?_append_right hk] at hq
    have e : k - q.length = 0 := by
     rcases Nat.eq_zero_or_pos (k - q.length) with e | e
     ·exact e
     ·rw [List.getElem?_eq_none (by simp; omega)] at hq; cases hq
    rw [e] at hq
    cases hq
    exact ⟨.snil, by rw [List.getElem?_append_right (by omega), show k - fs.length = 0 by omega]; rfl, SlOf.nil⟩
  ·have lo : ∀ {k : Nat} {f : Int × D} {i : Nat}, (fs ++ [((l.length : Int), D.snil)])[k]? = some f → D.sid f.2 = some i → fs[k]? = some f := by
    intro k f i h1 h2
    rcases Nat.lt_or_ge k fs.length with hk | hk
    ·rwa [List.getElem?_append_left hk] at h1
    ·rw [List.getElem?_append_right hk] at h1
     cases hkk : k - fs.length with
     | zero => rw [hkk] at h1; cases h1; cases h2
     | succ m => rw [hkk] at h1; simp at h1
   exact h.inj k k' f f' i (lo h1 h3) (lo h2 h4) h3 h4
  ·rcases Nat.lt_or_ge k fs.length with hk | hk
   ·rw [List.getElem?_append_left hk] at h1
    exact .inl (h.fc k f i h1 h2)
   ·rw [List.getElem?_append_right hk] at h1
    cases hkk : k - fs.length with
    | zero => rw [hkk] at h1; cases h1; cases h2
    | succ m => rw [hkk] at h1; simp at h1
  ·rw [List.length_set, gl]
   rcases hk with hk | hk
   ·have := h.lt k hk; omega
   ·omega

theorem Crt.other {F : Nat → Prop} {q : List (Nat × List Nat)} (h : Crt bs F j c l q sa sf fs) {n : Nat} (hn : ¬ F n) (x : D) : Crt (bs.set n x) F j c l q sa sf fs :=
 h.keep (by simp) fun k hk => set_get_ne (fun e => hn (e ▸ hk))

theorem Crt.fileAppend {F : Nat → Prop} {q : List (Nat × List Nat)} (h : Crt bs F j c l q sa sf fs) {k p : Nat} {idx : List Nat} (hk : q[k]? = some (p, idx)) (hL : idx.length ≤ 1000000) (n : Nat) :
  ∃ bs1 bs2 F' b s, sf = .sl b 0 fs.length ∧ bs[b]? = some (.blk 115 2 (fs.flatMap fcs)) ∧ fs[k]? = some (↑p, s) ∧ D.apph 3 1 8 (.st bs) s (.lst [I n]) = some (.st bs1) ∧ D.apps (.st bs) s (.lst [I n]) = some (.sl bs.length 0 (idx.length + 1)) ∧
   D.sto 1 (.st bs1) (.loc b (k * 2 + 1)) (.sl bs.length 0 (idx.length + 1)) = some (.st bs2) ∧ (∀ i, i < bs.length → (¬ F i ∨ i = j) → bs1[i]? = bs[i]?) ∧ Stp bs F bs2 F' ∧ Crt bs2 F' j c l (q.set k (p, idx ++ [n])) sa sf (fs.set k (↑p, .sl bs.length 0 (idx.length + 1))) := by
 obtain ⟨s, hs, hsl⟩ := h.case k p idx hk
 have hkf := (List.getElem?_eq_some_iff.1 hs).1
 have hkq := (List.getElem?_eq_some_iff.1 hk).1
 obtain ⟨b, hb, hbb⟩ := h.files.get hkf
 obtain ⟨bs1, ga, gs, gn, gl, go⟩ := hsl.append (bytes := 8) (x := n) (y := I n) (fun _ => rfl) rfl rfl (by omega) (by unfold maxLen; omega)
 have hblt : b < bs.length := (List.getElem?_eq_some_iff.1 hbb).1
 have hb1 : bs1[b]? = some (.blk 115 2 (fs.flatMap fcs)) := by
  rw [go b hblt (fun e => hsl.ne e hbb (by decide) rfl)]
  exact hbb
 have g2 := sto_el (xs := fs) (enc := fcs) (o := 1) (d := .sl bs.length 0 (idx.length + 1)) (x' := (↑p, .sl bs.length 0 (idx.length + 1))) hb1 (fun _ => rfl) hs (by omega) rfl rfl
 have hb1lt : b < bs1.length := by omega
 have hFb : F b := h.ff b (by rw [hb]; rfl)
 refine ⟨bs1, bs1.set b (.blk 115 2 ((fs.set k (↑p, .sl bs.length 0 (idx.length + 1))).flatMap fcs)), fun i => F i ∨ i = bs.length, b, s, hb, hbb, hs, ga, gs, g2, fun i hi hF => go i hi fun e => hF.elim (fun hF => hF (h.fc k _ i hs e)) (fun e' => hsl.ne e h.acts.1 (by decide) e'), ⟨by simp [gl], fun i hi hF => ?_, fun i hi => hi.elim .inl fun e => .inr (by omega)⟩, ?_⟩
 ·rw [set_get_ne (fun (e : b = i) => hF (by rw [← e]; exact hFb)), go i hi (fun e => hF (h.fc k _ i hs e))]
 have keep : ∀ i, i < bs.length → i ≠ b → s.sid ≠ some i → (bs1.set b (.blk 115 2 ((fs.set k (↑p, .sl bs.length 0 (idx.length + 1))).flatMap fcs)))[i]? = bs[i]? := fun i h1 h2 h3 => by rw [set_get_ne (Ne.symm h2), go i h1 h3]
 have hjb : j ≠ b := fun e => by
  have := h.acts.1
  rw [e, hbb] at this
  cases this
 have hjs : s.sid ≠ some j := fun e => hsl.ne e h.acts.1 (by decide) rfl
 have get : ∀ i f, (fs.set k ((p : Int), D.sl bs.length 0 (idx.length + 1)))[i]? = some f → (i = k ∧ f = (↑p, .sl bs.length 0 (idx.length + 1))) ∨ (i ≠ k ∧ fs[i]? = some f) := fun i f hi => by
  by_cases e : i = k
  ·subst e
   rw [List.getElem?_set_self hkf] at hi
   cases hi
   exact .inl ⟨rfl, rfl⟩
  ·rw [List.getElem?_set_ne (Ne.symm e)] at hi
   exact .inr ⟨e, hi⟩
 refine ⟨⟨by rw [keep j (h.lt j h.fj) hjb hjs]; exact h.acts.1, h.acts.2.keep fun i hi => keep i (h.acts.2.lt hi) (h.acts.2.ne hi hbb (by decide)) fun e => hsl.ne e (h.acts.2.blk hi) (by decide) rfl⟩, .inr ⟨b, by rw [hb]; simp, set_get hb1lt⟩, by simp [h.len], fun i p' idx' hi => ?_, fun i i' f f' m h1 h2 h3 h4 => ?_, .inl h.fj, fun i hi => .inl (h.fa i hi), fun i hi => .inl (h.ff i hi), fun i f m h1 h2 => ?_, fun i hi => ?_⟩
 ·by_cases e : i = k
  ·subst e
   rw [List.getElem?_set_self hkq] at hi
   cases hi
   exact ⟨_, List.getElem?_set_self hkf, .inr ⟨bs.length, by simp, by rw [set_get_ne (by omega)]; exact gn⟩⟩
  ·rw [List.getElem?_set_ne (Ne.symm e)] at hi
   obtain ⟨s', h1, h2⟩ := h.case i p' idx' hi
   exact ⟨s', by rw [List.getElem?_set_ne (Ne.symm e)]; exact h1, h2.keep fun m hm => keep m (h2.lt hm) (h2.ne hm hbb (by decide)) fun e' => e (h.inj i k _ _ m h1 hs hm e')⟩
 ·rcases get i f h1 with ⟨rfl, rfl⟩ | ⟨e1, g1⟩ <;> rcases get i' f' h2 with ⟨rfl, rfl⟩ | ⟨e2, g2'⟩
  ·rfl
  ·cases h3
   exact absurd (h.lt _ (h.fc i' f' _ g2' h4)) (Nat.lt_irrefl _)
  ·cases h4
   exact absurd (h.lt _ (h.fc i f _ g1 h3)) (Nat.lt_irrefl _)
  ·exact h.inj i i' f f' m g1 g2' h3 h4
 ·rcases get i f h1 with ⟨rfl, rfl⟩ | ⟨e1, g1⟩
  ·cases h2
   exact .inr rfl
  ·exact .inl (h.fc i f m g1 h2)
 ·rw [List.length_set, gl]
  rcases hi with hi | hi
  ·have := h.lt i hi; omega
  ·omega

theorem Crt.actsAppend {F : Nat → Prop} {q : List (Nat × List Nat)} (h : Crt bs F j c l q sa sf fs) (hL : l.length ≤ 1000000) (a : Akt) :
  ∃ bs1 bs2 F', D.apph 43 12 112 (.st bs) sa (.lst [a.d]) = some (.st bs1) ∧ D.apps (.st bs) sa (.lst [a.d]) = some (.sl bs.length 0 (l.length + 1)) ∧
   D.sto 1 (.st bs1) (.loc j 7) (.sl bs.length 0 (l.length + 1)) = some (.st bs2) ∧ Stp bs F bs2 F' ∧ Crt bs2 F' j c (l ++ [a]) q (.sl bs.length 0 (l.length + 1)) sf fs := by
 obtain ⟨bs1, ga, gs, gn, gl, go⟩ := h.acts.2.append (bytes := 112) (x := a) (y := a.d) (fun _ => rfl) rfl rfl (by omega) (by unfold maxLen; omega)
 have hjlt := h.lt j h.fj
 have hj1 : bs1[j]? = some (.blk 99 9 (crtCells c sa sf)) := by
  rw [go j hjlt (fun e => h.acts.2.ne e h.acts.1 (by decide) rfl)]
  exact h.acts.1
 have g2 := sto_blk (k := 7) hj1 (by simp [crtCells]) (d := .sl bs.length 0 (l.length + 1)) rfl
 have hj1lt : j < bs1.length := by omega
 refine ⟨bs1, _, fun i => F i ∨ i = bs.length, ga, gs, g2, ⟨by simp [gl], fun i hi hF => ?_, fun i hi => hi.elim .inl fun e => .inr (by omega)⟩, ?_⟩
 ·rw [set_get_ne (fun (e : j = i) => hF (by rw [← e]; exact h.fj)), go i hi (fun e => hF (h.fa i e))]
 have keep : ∀ i, i < bs.length → i ≠ j → sa.sid ≠ some i → (bs1.set j (.blk 99 9 ((crtCells c sa sf).set 7 (.sl bs.length 0 (l.length + 1)))))[i]? = bs[i]? := fun i h1 h2 h3 => by rw [set_get_ne (Ne.symm h2), go i h1 h3]
 have old : ∀ {α : Type} {e : TypeId} {sz : Nat} {enc : α → List D} {s : D} {xs : List α}, SlOf bs e sz enc s xs → e ≠ 99 → e ≠ 43 → SlOf (bs1.set j (.blk 99 9 ((crtCells c sa sf).set 7 (.sl bs.length 0 (l.length + 1))))) e sz enc s xs := fun hs h1 h2 => hs.keep fun i hi => keep i (hs.lt hi) (hs.ne hi h.acts.1 h1) fun hf => hs.ne hi (h.acts.2.blk hf) h2 rfl
 refine ⟨⟨by rw [set_get hj1lt]; rfl, .inr ⟨bs.length, by simp, by rw [set_get_ne (by omega)]; exact gn⟩⟩, old h.files (by decide) (by decide), h.len, fun k p idx hq => ?_, h.inj, .inl h.fj, fun i hi => .inr (by cases hi; rfl), fun i hi => .inl (h.ff i hi), fun k f i h1 h2 => .inl (h.fc k f i h1 h2), fun k hk => ?_⟩
 ·obtain ⟨s, g1, g2⟩ := h.case k p idx hq
  exact ⟨s, g1, old g2 (by decide) (by decide)⟩
 ·rw [List.length_set, gl]
  rcases hk with hk | hk
  ·have := h.lt k hk; omega
  ·omega

theorem c70 (xs : List Int) (hl : xs.length ≤ 1000000) : FSpecR Try.prog 70 (.st bs) [Is xs] (Is xs) := by
 refine ku70.R rfl rfl ?_
 unfold u70
 simp only [ups_cons, ups_nil, List.cons_append, List.nil_append]
 refine u_nilq rfl fun b hb => ?_
 have h1 := app_lst (xs := []) (ys := xs) (enc := I) (sz := 1) (bytes := 8) (by simp; omega) (by simp [maxLen]; omega) (fun _ => rfl)
 repeat' (first | ((with_reducible apply nrm); (· simp only [sbe]; rfl)) | ((with_reducible apply u_app); (· rfl); (· rfl); (· exact h1); (· simp only [sbe]; rfl)) | ((with_reducible apply u_ite); (· rfl); all_goals (intro hz; (try simp only [sbs] at hz); first | (exact absurd hz (by decide)) | (exfalso; omega) | skip)) | (with_reducible exact u_ret rfl rfl) | ((with_reducible apply u_ret); (· rfl); first | exact rfl | (refine retB ?_) | (refine retI ?_) | (refine retD ?_)))
 simp_all

end Go.Am.Ct

/-
 Do.
-/
namespace Go.Am.Ct
set_option maxRecDepth 100000
set_option maxHeartbeats 4000000
open Go.Proofs Go.Am.Ap

variable {bs : List D} {j : Nat} {c : Cod} {l : List Akt} {sa sf : D} {fs : List (Int × D)} {F : Nat → Prop} {q : List (Nat × List Nat)}

attribute [local irreducible] inR

theorem e_pair {env : List D} {x y z : E} {d1 d2 d3 : D} (hx : x.eval env = some d1) (hy : y.eval env = some d2) (hz : z.eval env = some d3) : (E.tcons (.tcons x (.tcons y .tnil)) (.tcons z .tnil)).eval env = some (.tup [.tup [d1, d2], d3]) := by
 simp only [E.eval, hx, hy, hz, Option.bind_some, D.tcons]

def res0 (bs : List D) : List D := bs ++ [.blk 3 1 [I 0]] ++ [.blk 24 1 [I 0]]

theorem res_n0 : (res0 bs)[bs.length]? = some (.blk 3 1 [I 0]) := by simp [res0]
theorem res_n1 : (res0 bs)[(bs ++ [D.blk 3 1 [I 0]]).length]? = some (.blk 24 1 [I 0]) := by simp [res0]

theorem Crt.res (h : Crt bs F j c l q sa sf fs) : Crt (res0 bs) F j c l q sa sf fs := (h.more _).more _

def res1 (B : List D) (n : Nat) (x e : Int) : List D := (B.set n (.blk 3 1 [I x])).set (n + 1) (.blk 24 1 [I e])

theorem res1_n0 {B : List D} {n : Nat} {x e : Int} (h : n < B.length) : (res1 B n x e)[n]? = some (.blk 3 1 [I x]) := by
 unfold res1
 rw [set_get_ne (by omega), set_get h]
theorem res1_n1 {B : List D} {n : Nat} {x e : Int} (h : n + 1 < B.length) : (res1 B n x e)[n + 1]? = some (.blk 24 1 [I e]) := by
 unfold res1
 rw [set_get (by simpa using h)]
theorem res1_len {B : List D} {n : Nat} {x e : Int} : (res1 B n x e).length = B.length := by simp [res1]
theorem res1_old {B : List D} {n k : Nat} {x e : Int} (h : k < n) : (res1 B n x e)[k]? = B[k]? := by
 unfold res1
 rw [set_get_ne (by omega), set_get_ne (by omega)]

def early (l : List Akt) (a : Akt) : Bool := decide (0 < (l.length : Int)) && decide (a.minute < (nth l (l.length - 1)).minute)

theorem last_at (h : Crt bs F j c l q sa sf fs) : ∃ b, 0 < l.length → D.eaddr 12 sa (I (l.length - 1 : Nat)) = some (.loc b ((l.length - 1) * 12)) ∧ D.ld false 1 (.st bs) (.loc b ((l.length - 1) * 12 + 1)) = some (I (nth l (l.length - 1)).minute) := by
 by_cases hl : 0 < l.length
 ·obtain ⟨b, rfl, hb⟩ := h.acts.2.get hl
  refine ⟨b, fun _ => ⟨eaddr_sl (by omega), ?_⟩⟩
  have hx := List.getElem?_eq_getElem (show l.length - 1 < l.length by omega)
  have := ld_elc (k := 1) hb (fun _ => rfl) hx rfl
  rw [this]
  simp [nth, hx]
 ·exact ⟨0, fun h => absurd h hl⟩

theorem noneDone (h : Crt bs F j c l q sa sf fs) (e : Int) :
  D.sto 1 (.st (res0 bs)) (.loc bs.length 0) (I 0) = some (.st ((res0 bs).set bs.length (.blk 3 1 [I 0]))) ∧
  D.sto 1 (.st ((res0 bs).set bs.length (.blk 3 1 [I 0]))) (.loc (bs ++ [D.blk 3 1 [I 0]]).length 0) (I e) = some (.st (res1 (res0 bs) bs.length 0 e)) ∧
  D.ld false 1 (.st (res1 (res0 bs) bs.length 0 e)) (.loc bs.length 0) = some (I 0) ∧
  D.ld false 1 (.st (res1 (res0 bs) bs.length 0 e)) (.loc (bs ++ [D.blk 3 1 [I 0]]).length 0) = some (I e) ∧
  Stp bs F (res1 (res0 bs) bs.length 0 e) F ∧ Crt (res1 (res0 bs) bs.length 0 e) F j c l q sa sf fs := by
 have e2 : (bs ++ [D.blk 3 1 [I 0]]).length = bs.length + 1 := by simp
 refine ⟨sto_blk (k := 0) (res_n0 (bs := bs)) (by simp) rfl, ?_, ld_blk (k := 0) (res1_n0 (by simp [res0])) rfl, ?_, ⟨by rw [res1_len]; simp [res0], fun k hk _ => ?_, fun k hk => .inl hk⟩, h.res.keep (by rw [res1_len]; exact Nat.le_refl _) fun k hk => res1_old (h.lt k hk)⟩
 ·rw [sto_blk (e := 24) (sz := 1) (cs := [I 0]) (k := 0) (by rw [set_get_ne (by simp)]; exact res_n1) (by simp) rfl, e2]
  rfl
 ·rw [e2]
  exact ld_blk (k := 0) (res1_n1 (by simp [res0])) rfl
 ·rw [res1_old hk]
  simp only [res0, List.append_assoc]
  rw [List.getElem?_append_left hk]


theorem c26arg (h : Crt bs F j c l q sa sf fs) (hL : l.length ≤ 1000000) (a : Akt) (ha : a.facts.length ≤ 1000000) (hbad : (!actOk c.cars a || early l a) = true) :
  ∃ bs', FSpecWO Try.prog 26 (.st bs) [.loc j 0, a.d] (.ret (.tup [I 0, I 2])) (.st bs') ∧ Stp bs F bs' F ∧ Crt bs' F j c l q sa sf fs := by
 obtain ⟨s1, s2, g1, g2, k1, k2⟩ := noneDone h 2
 refine ⟨_, ?_, k1, k2⟩
 refine ku26.deferO rfl ?_
 unfold u26
 have hr := h.res
 have h61 := c61 hr.acts
 have h62 := c62 hr.acts a ha
 obtain ⟨b0, hb0⟩ := last_at hr
 unfold early at *
 simp only [ups_cons, ups_nil, List.cons_append, List.nil_append]
 repeat' (first | ((with_reducible apply nrm); (· simp only [sbe]; rfl)) | (exact u_ret (e_pair (e_ld rfl rfl g1) (e_ld rfl rfl g2) rfl) rfl) | ((with_reducible apply u_iteT); (· rfl); (· exact hbad)) | ((with_reducible apply u_iteF); (· rfl); (· exact rfl)) | ((with_reducible apply u_chk); (· rfl)) | ((with_reducible apply u_ld); (· rfl); (· rfl); (· first | exact ld_blk hr.acts.1 rfl | exact (hb0 (by omega)).2); (· simp only [sbe]; rfl)) | ((with_reducible apply u_eaddr); (· rfl); (· rfl); (· exact (hb0 (by omega)).1); (· simp only [sbe]; rfl)) | ((with_reducible apply u_lenL); (· rfl); (· exact hr.acts.2.len); (· simp only [sbe]; rfl)) | ((with_reducible apply u_sto); (· rfl); (· rfl); (· rfl); (· first | exact s1 | exact s2); (· simp only [sbe]; rfl)) | ((with_reducible apply u_pred); (· rfl); (· omega); (· simp only [sbe]; rfl)) | ((with_reducible apply u_ev); (· rfl); (· simp only [sbe]; rfl)) | ((with_reducible apply u_call); (· rfl); (· rfl); (· first | exact h61 | exact h62); (· rfl); (· simp only [sbe]; rfl)) | ((with_reducible apply u_or); (· rfl)) | ((with_reducible apply u_and); (· rfl)) | (with_reducible exact u_ret rfl rfl) | ((with_reducible intro hz); (try simp only [sbs] at hz)))

theorem c26long (h : Crt bs F j c l q sa sf fs) (hL : l.length ≤ 1000000) (a : Akt) (ha : a.facts.length ≤ 1000000) (hok : (!actOk c.cars a || early l a) = false) (hm : 2000 ≤ l.length) :
  ∃ bs', FSpecWO Try.prog 26 (.st bs) [.loc j 0, a.d] (.ret (.tup [I 0, I 4])) (.st bs') ∧ Stp bs F bs' F ∧ Crt bs' F j c l q sa sf fs := by
 obtain ⟨s1, s2, g1, g2, k1, k2⟩ := noneDone h 4
 refine ⟨_, ?_, k1, k2⟩
 refine ku26.deferO rfl ?_
 unfold u26
 have hr := h.res
 have h61 := c61 hr.acts
 have h62 := c62 hr.acts a ha
 obtain ⟨b0, hb0⟩ := last_at hr
 unfold early at *
 simp only [ups_cons, ups_nil, List.cons_append, List.nil_append]
 have hm' : decide ((l.length : Int) ≥ 2000) = true := by simp; omega
 repeat' (first | ((with_reducible apply nrm); (· simp only [sbe]; rfl)) | (exact u_ret (e_pair (e_ld rfl rfl g1) (e_ld rfl rfl g2) rfl) rfl) | ((with_reducible apply u_iteT); (· rfl); (· exact hm')) | ((with_reducible apply u_iteF); (· rfl); (· first | exact rfl | exact hok)) | ((with_reducible apply u_chk); (· rfl)) | ((with_reducible apply u_ld); (· rfl); (· rfl); (· first | exact ld_blk hr.acts.1 rfl | exact (hb0 (by omega)).2); (· simp only [sbe]; rfl)) | ((with_reducible apply u_eaddr); (· rfl); (· rfl); (· exact (hb0 (by omega)).1); (· simp only [sbe]; rfl)) | ((with_reducible apply u_lenL); (· rfl); (· exact hr.acts.2.len); (· simp only [sbe]; rfl)) | ((with_reducible apply u_sto); (· rfl); (· rfl); (· rfl); (· first | exact s1 | exact s2); (· simp only [sbe]; rfl)) | ((with_reducible apply u_pred); (· rfl); (· omega); (· simp only [sbe]; rfl)) | ((with_reducible apply u_ev); (· rfl); (· simp only [sbe]; rfl)) | ((with_reducible apply u_call); (· rfl); (· rfl); (· first | exact h61 | exact h62); (· rfl); (· simp only [sbe]; rfl)) | ((with_reducible apply u_or); (· rfl)) | ((with_reducible apply u_and); (· rfl)) | (with_reducible exact u_ret rfl rfl) | ((with_reducible intro hz); (try simp only [sbs] at hz)))

end Go.Am.Ct

/-
 Do: the acts.
-/
namespace Go.Am.Ct
set_option maxRecDepth 100000
set_option maxHeartbeats 4000000
open Go.Proofs Go.Am.Ap

variable {bs : List D} {j : Nat} {c : Cod} {l : List Akt} {sa sf : D} {fs : List (Int × D)} {F : Nat → Prop} {q : List (Nat × List Nat)}

attribute [local irreducible] inR

theorem e_two {env : List D} {x y : E} {d1 d2 : D} (hx : x.eval env = some d1) (hy : y.eval env = some d2) : (E.tcons x (.tcons y .tnil)).eval env = some (.tup [d1, d2]) := by
 simp only [E.eval, hx, hy, Option.bind_some, D.tcons]

def kents (j : Nat) : List D := [.tup [I 1, .fn 64 [.loc j 0] []], .tup [I 2, .fn 65 [.loc j 0] []], .tup [I 3, .fn 66 [.loc j 0] []], .tup [I 4, .fn 67 [.loc j 0] []], .tup [I 5, .fn 68 [.loc j 0] []], .tup [I 6, .fn 69 [.loc j 0] []]]

def mid (bs : List D) (j : Nat) : List D := res0 bs ++ [.mblk (kents j)]

theorem mid_n0 : (mid bs j)[bs.length]? = some (.blk 3 1 [I 0]) := by
 unfold mid
 rw [List.getElem?_append_left (by simp [res0])]
 exact res_n0
theorem mid_n1 : (mid bs j)[bs.length + 1]? = some (.blk 24 1 [I 0]) := by
 unfold mid
 rw [List.getElem?_append_left (by simp [res0])]
 have := res_n1 (bs := bs)
 simpa using this
theorem mid_len : (mid bs j).length = bs.length + 3 := by simp [mid, res0]
theorem mid_old {k : Nat} (h : k < bs.length) : (mid bs j)[k]? = bs[k]? := by
 simp only [mid, res0, List.append_assoc]
 rw [List.getElem?_append_left h]
theorem Crt.mid (h : Crt bs F j c l q sa sf fs) : Crt (mid bs j) F j c l q sa sf fs := h.res.more _

theorem c26pan (h : Crt bs F j c l q sa sf fs) (hL : l.length ≤ 1000000) (a : Akt) (ha : a.facts.length ≤ 1000000) (hok : (!actOk c.cars a || early l a) = false) (hm : l.length < 2000) {f i : Nat} (hg : D.mlook .int (I a.kind) (kents j) = some (some (i, .fn f [.loc j 0] []))) (hf : callable Try.prog f = true)
  {e : Int} (hp : FSpecWO Try.prog f (.st (mid bs j)) [.loc j 0, a.d] (.pan (refusal e)) (.st (mid bs j))) :
  ∃ bs', FSpecWO Try.prog 26 (.st bs) [.loc j 0, a.d] (.ret (.tup [I 0, I e])) (.st bs') ∧ Stp bs F bs' F ∧ Crt bs' F j c l q sa sf fs := by
 have e2 : (bs ++ [D.blk 3 1 [I 0]]).length = bs.length + 1 := by simp
 have g1 := ld_blk (k := 0) (res1_n0 (B := mid bs j) (n := bs.length) (x := 0) (e := e) (by rw [mid_len]; omega)) rfl
 have g2 := ld_blk (k := 0) (res1_n1 (B := mid bs j) (n := bs.length) (x := 0) (e := e) (by rw [mid_len]; omega)) rfl
 have h63 := c63p (e := e) (mid_n0 (bs := bs) (j := j)) mid_n1 (by omega)
 refine ⟨res1 (mid bs j) bs.length 0 e, ?_, ⟨by rw [res1_len, mid_len]; omega, fun k hk _ => by rw [res1_old hk, mid_old hk], fun k hk => .inl hk⟩, h.mid.keep (by rw [res1_len]; exact Nat.le_refl _) fun k hk => res1_old (h.lt k hk)⟩
 refine ku26.deferO rfl ?_
 unfold u26
 have hr := h.res
 have h61 := c61 hr.acts
 have h62 := c62 hr.acts a ha
 obtain ⟨b0, hb0⟩ := last_at hr
 unfold early at *
 simp only [ups_cons, ups_nil, List.cons_append, List.nil_append]
 have hm' : decide ((l.length : Int) ≥ 2000) = false := by simp; omega
 repeat' (first | ((with_reducible apply nrm); (· simp only [sbe]; rfl)) | ((with_reducible apply u_iteF); (· rfl); (· first | exact rfl | exact hok | exact hm')) | ((with_reducible apply u_chk); (· rfl)) | ((with_reducible apply u_ld); (· rfl); (· rfl); (· first | exact ld_blk hr.acts.1 rfl | exact (hb0 (by omega)).2); (· simp only [sbe]; rfl)) | ((with_reducible apply u_eaddr); (· rfl); (· rfl); (· exact (hb0 (by omega)).1); (· simp only [sbe]; rfl)) | ((with_reducible apply u_lenL); (· rfl); (· exact hr.acts.2.len); (· simp only [sbe]; rfl)) | ((with_reducible apply u_m4); (· rfl); (· rfl); (· rfl); (· rfl); (· first | exact m4_put rfl | exact m4_get hg rfl); (· simp only [sbe]; rfl)) | ((with_reducible apply u_pred); (· rfl); (· omega); (· simp only [sbe]; rfl)) | ((with_reducible apply u_ev); (· rfl); (· simp only [sbe]; rfl)) | ((with_reducible apply u_call); (· rfl); (· rfl); (· first | exact h61 | exact h62); (· rfl); (· simp only [sbe]; rfl)) | ((with_reducible apply u_or); (· rfl)) | ((with_reducible apply u_and); (· rfl)) | ((with_reducible apply u_dfr); (· rfl); (· rfl)) | (with_reducible exact u_ret rfl rfl) | ((with_reducible intro hz); (try simp only [sbs] at hz)))
 refine u_wpcallvP rfl hf rfl rfl hp rfl ⟨rfl, .st (res1 (mid bs j) bs.length 0 e), .tup [I 0, I e], ?_, ?_, rfl⟩
 ·show FSpecD Try.prog 63 (.st (mid bs j)) [.loc bs.length 0, .loc (bs ++ [D.blk 3 1 [I 0]]).length 0] (some (refusal e)) (.st (res1 (mid bs j) bs.length 0 e))
  rw [e2]
  exact h63
 ·refine e_two (e_ld rfl rfl g1) (e_ld rfl rfl ?_)
  rw [← e2] at g2
  exact g2

structure Done (bs : List D) (F : Nat → Prop) (j : Nat) (c : Cod) (l : List Akt) (a : Akt) (f : FuncId) (n : Int) (C : List D) (F4 : Nat → Prop) (q4 : List (Nat × List Nat)) (sf4 : D) (fs4 : List (Int × D)) (sa : D) : Prop where
 hp : FSpecWO Try.prog f (.st (mid bs j)) [.loc j 0, a.d] (.ret (I n)) (.st C)
 st : Stp (mid bs j) F C F4
 crt : Crt C F4 j c l q4 sa sf4 fs4



theorem c26pub (h : Crt bs F j c l q sa sf fs) (hL : l.length ≤ 1000000) (a : Akt) (ha : a.facts.length ≤ 1000000) (hok : (!actOk c.cars a || early l a) = false) (hm : l.length < 2000) {f i : Nat} (hg : D.mlook .int (I a.kind) (kents j) = some (some (i, .fn f [.loc j 0] []))) (hf : callable Try.prog f = true)
  {C : List D} {F4 : Nat → Prop} {q4 : List (Nat × List Nat)} {sf4 : D} {fs4 : List (Int × D)} {n : Int} (hn : n = -1) (hd : Done bs F j c l a f n C F4 q4 sf4 fs4 sa) :
  ∃ bs' F' sa' , FSpecWO Try.prog 26 (.st bs) [.loc j 0, a.d] (.ret (.tup [I n, I 0])) (.st bs') ∧ Stp bs F bs' F' ∧ Crt bs' F' j c (l ++ [a]) q4 sa' sf4 fs4 := by
 have e2 : (bs ++ [D.blk 3 1 [I 0]]).length = bs.length + 1 := by simp
 have hC := hd.st.len
 rw [mid_len] at hC
 have nF4 : ∀ k, bs.length ≤ k → k < bs.length + 3 → ¬ F4 k := fun k h1 h2 h3 => by
  rcases hd.st.new k h3 with h4 | h4
  ·have := h.lt k h4; omega
  ·rw [mid_len] at h4; omega
 have nF : ∀ k, bs.length ≤ k → ¬ F k := fun k h1 h2 => by have := h.lt k h2; omega
 have hC0 : C[bs.length]? = some (.blk 3 1 [I 0]) := by rw [hd.st.old _ (by rw [mid_len]; omega) (nF _ (Nat.le_refl _))]; exact mid_n0
 have hC1 : C[bs.length + 1]? = some (.blk 24 1 [I 0]) := by rw [hd.st.old _ (by rw [mid_len]; omega) (nF _ (by omega))]; exact mid_n1
 have s1 := sto_blk (k := 0) hC0 (by simp) (d := I n) rfl
 have hc1 := hd.crt.other (nF4 bs.length (Nat.le_refl _) (by omega)) (.blk 3 1 [I n])
 have l1 : (C.set bs.length (.blk 3 1 [I n])).length = C.length := by simp
 have v0 : (C.set bs.length (.blk 3 1 [I n]))[bs.length]? = some (.blk 3 1 [I n]) := set_get (by omega)
 have v1 : (C.set bs.length (.blk 3 1 [I n]))[bs.length + 1]? = some (.blk 24 1 [I 0]) := by rw [set_get_ne (by omega)]; exact hC1
 have vo : ∀ k, k < bs.length → ¬ F k → (C.set bs.length (.blk 3 1 [I n]))[k]? = bs[k]? := fun k hk hF => by rw [set_get_ne (by omega), hd.st.old k (by rw [mid_len]; omega) hF, mid_old hk]
 have nFo : ∀ k, k < bs.length → ¬ F k → ¬ F4 k := fun k hk hF h4 => (hd.st.new k h4).elim hF fun h5 => by rw [mid_len] at h5; omega
 obtain ⟨bs4, bs5, F5, ga, gs, gt, g5, g6⟩ := hc1.actsAppend hL a
 have h5l := g5.len
 have hn' : decide (n ≥ 0) = false := by rw [hn]; rfl
 have w0 : bs5[bs.length]? = some (.blk 3 1 [I n]) := by rw [g5.old bs.length (by omega) (nF4 bs.length (Nat.le_refl _) (by omega))]; exact v0
 have w1 : bs5[bs.length + 1]? = some (.blk 24 1 [I 0]) := by rw [g5.old (bs.length + 1) (by omega) (nF4 (bs.length + 1) (by omega) (by omega))]; exact v1
 have t1 := sto_blk (k := 0) w0 (by simp) (d := I n) rfl
 have t2 : D.sto 1 (.st (bs5.set bs.length (.blk 3 1 ([I n].set 0 (I n))))) (.loc (bs ++ [D.blk 3 1 [I 0]]).length 0) (I 0) = some (.st (res1 bs5 bs.length n 0)) := by
  rw [e2]
  exact sto_blk (bs := bs5.set bs.length (.blk 3 1 ([I n].set 0 (I n)))) (i := bs.length + 1) (k := 0) (by rw [set_get_ne (by omega)]; exact w1) (by simp) (d := I 0) rfl
 have r1 := ld_blk (k := 0) (res1_n0 (B := bs5) (n := bs.length) (x := n) (e := 0) (by omega)) rfl
 have r2 := ld_blk (k := 0) (res1_n1 (B := bs5) (n := bs.length) (x := n) (e := 0) (by omega)) rfl
 have nF5 : ∀ k, bs.length ≤ k → k < bs.length + 3 → ¬ F5 k := fun k h1 h2 h3 => (g5.new k h3).elim (nF4 k h1 h2) fun h4 => by omega
 refine ⟨res1 bs5 bs.length n 0, F5, _, ?_, ⟨by rw [res1_len]; omega, fun k hk hF => ?_, fun k hk => ?_⟩, (g6.other (nF5 bs.length (Nat.le_refl _) (by omega)) _).other (nF5 (bs.length + 1) (by omega) (by omega)) _⟩
 ·refine ku26.deferO rfl ?_
  unfold u26
  have hr := h.res
  have h61 := c61 hr.acts
  have h62 := c62 hr.acts a ha
  obtain ⟨b0, hb0⟩ := last_at hr
  unfold early at *
  simp only [ups_cons, ups_nil, List.cons_append, List.nil_append]
  have hm' : decide ((l.length : Int) ≥ 2000) = false := by simp; omega
  repeat' (first | ((with_reducible apply nrm); (· simp only [sbe]; rfl)) | ((with_reducible apply u_iteF); (· rfl); (· first | exact rfl | exact hok | exact hm')) | ((with_reducible apply u_chk); (· rfl)) | ((with_reducible apply u_ld); (· rfl); (· rfl); (· first | exact ld_blk hr.acts.1 rfl | exact (hb0 (by omega)).2); (· simp only [sbe]; rfl)) | ((with_reducible apply u_eaddr); (· rfl); (· rfl); (· exact (hb0 (by omega)).1); (· simp only [sbe]; rfl)) | ((with_reducible apply u_lenL); (· rfl); (· exact hr.acts.2.len); (· simp only [sbe]; rfl)) | ((with_reducible apply u_m4); (· rfl); (· rfl); (· rfl); (· rfl); (· first | exact m4_put rfl | exact m4_get hg rfl); (· simp only [sbe]; rfl)) | ((with_reducible apply u_pred); (· rfl); (· omega); (· simp only [sbe]; rfl)) | ((with_reducible apply u_ev); (· rfl); (· simp only [sbe]; rfl)) | ((with_reducible apply u_call); (· rfl); (· rfl); (· first | exact h61 | exact h62); (· rfl); (· simp only [sbe]; rfl)) | ((with_reducible apply u_or); (· rfl)) | ((with_reducible apply u_and); (· rfl)) | ((with_reducible apply u_dfr); (· rfl); (· rfl)) | (with_reducible exact u_ret rfl rfl) | ((with_reducible intro hz); (try simp only [sbs] at hz)))
  refine u_wpcallvR rfl hf rfl rfl hd.hp rfl (by simp only [List.cons_append, List.nil_append]; rfl) ?_
  have h70 := c70 (bs := C.set bs.length (.blk 3 1 [I n])) a.facts ha
  repeat' (first | ((with_reducible apply nrm); (· simp only [sbe]; rfl)) | ((with_reducible apply u_iteF); (· rfl); (· exact hn')) | ((with_reducible apply u_chk); (· rfl)) | ((with_reducible apply u_stoa); (· rfl); (· rfl); (· rfl); (· rfl); (· rfl); (· exact gs); (· exact gt); (· simp only [sbe]; rfl)) | ((with_reducible apply u_ld); (· rfl); (· rfl); (· first | exact ld_blk v0 rfl | exact ld_blk hc1.acts.1 rfl | exact ld_blk w0 rfl); (· simp only [sbe]; rfl)) | ((with_reducible apply u_sto); (· rfl); (· rfl); (· rfl); (· first | exact s1 | exact t1 | exact t2); (· simp only [sbe]; rfl)) | ((with_reducible apply u_apph); (· rfl); (· rfl); (· rfl); (· exact ga); (· simp only [sbe]; rfl)) | ((with_reducible apply u_ev); (· rfl); (· simp only [sbe]; rfl)) | ((with_reducible apply u_call); (· rfl); (· rfl); (· exact h70); (· rfl); (· simp only [sbe]; rfl)) | (with_reducible refine u_join ?_) | ((with_reducible apply u_jump); (· rfl); (· rfl)) | (with_reducible refine at_jump ?_) | (with_reducible refine kj rfl ?_))
  refine u_ret rfl ⟨.st (res1 bs5 bs.length n 0), .tup [I n, I 0], c63n, e_two (e_ld rfl rfl r1) (e_ld rfl rfl ?_), rfl⟩
  rw [← e2] at r2
  exact r2
 ·rw [res1_old hk, g5.old k (by omega) (nFo k hk hF), vo k hk hF]
 ·rcases g5.new k hk with h1 | h1
  ·rcases hd.st.new k h1 with h2 | h2
   ·exact .inl h2
   ·rw [mid_len] at h2; exact .inr (by omega)
  ·exact .inr (by omega)

theorem c26upd (h : Crt bs F j c l q sa sf fs) (hL : l.length ≤ 1000000) (a : Akt) (ha : a.facts.length ≤ 1000000) (hok : (!actOk c.cars a || early l a) = false) (hm : l.length < 2000) {f i : Nat} (hg : D.mlook .int (I a.kind) (kents j) = some (some (i, .fn f [.loc j 0] []))) (hf : callable Try.prog f = true)
  {C : List D} {F4 : Nat → Prop} {q4 : List (Nat × List Nat)} {sf4 : D} {fs4 : List (Int × D)} {n : Int} {k p : Nat} {idx : List Nat} (hn : n = k) (hk : q4[k]? = some (p, idx)) (hx : idx.length ≤ 1000000) (hd : Done bs F j c l a f n C F4 q4 sf4 fs4 sa) :
  ∃ bs' F' sa' fs', FSpecWO Try.prog 26 (.st bs) [.loc j 0, a.d] (.ret (.tup [I n, I 0])) (.st bs') ∧ Stp bs F bs' F' ∧ Crt bs' F' j c (l ++ [a]) (q4.set k (p, idx ++ [l.length])) sa' sf4 fs' := by
 have e2 : (bs ++ [D.blk 3 1 [I 0]]).length = bs.length + 1 := by simp
 have hC := hd.st.len
 rw [mid_len] at hC
 have nF4 : ∀ k, bs.length ≤ k → k < bs.length + 3 → ¬ F4 k := fun k h1 h2 h3 => by
  rcases hd.st.new k h3 with h4 | h4
  ·have := h.lt k h4; omega
  ·rw [mid_len] at h4; omega
 have nF : ∀ k, bs.length ≤ k → ¬ F k := fun k h1 h2 => by have := h.lt k h2; omega
 have hC0 : C[bs.length]? = some (.blk 3 1 [I 0]) := by rw [hd.st.old _ (by rw [mid_len]; omega) (nF _ (Nat.le_refl _))]; exact mid_n0
 have hC1 : C[bs.length + 1]? = some (.blk 24 1 [I 0]) := by rw [hd.st.old _ (by rw [mid_len]; omega) (nF _ (by omega))]; exact mid_n1
 have s1 := sto_blk (k := 0) hC0 (by simp) (d := I n) rfl
 have hc1 := hd.crt.other (nF4 bs.length (Nat.le_refl _) (by omega)) (.blk 3 1 [I n])
 have l1 : (C.set bs.length (.blk 3 1 [I n])).length = C.length := by simp
 have v0 : (C.set bs.length (.blk 3 1 [I n]))[bs.length]? = some (.blk 3 1 [I n]) := set_get (by omega)
 have v1 : (C.set bs.length (.blk 3 1 [I n]))[bs.length + 1]? = some (.blk 24 1 [I 0]) := by rw [set_get_ne (by omega)]; exact hC1
 have vo : ∀ k, k < bs.length → ¬ F k → (C.set bs.length (.blk 3 1 [I n]))[k]? = bs[k]? := fun k hk hF => by rw [set_get_ne (by omega), hd.st.old k (by rw [mid_len]; omega) hF, mid_old hk]
 have nFo : ∀ k, k < bs.length → ¬ F k → ¬ F4 k := fun k hk hF h4 => (hd.st.new k h4).elim hF fun h5 => by rw [mid_len] at h5; omega
 obtain ⟨bs2, bs3, F3, b, s, hsf, hsb, hfk, fa, fgs, fgt, fo, g3, hc3⟩ := hc1.fileAppend hk hx l.length
 obtain ⟨bs4, bs5, F5, ga, gs, gt, g5, g6⟩ := hc3.actsAppend hL a
 have h5l := g5.len
 have h3l := g3.len
 have hn' : decide (n ≥ 0) = true := by rw [hn]; simp
 have hkl := (List.getElem?_eq_some_iff.1 hfk).1
 have nF3 : ∀ k, bs.length ≤ k → k < bs.length + 3 → ¬ F3 k := fun k h1 h2 h3 => (g3.new k h3).elim (nF4 k h1 h2) fun h4 => by omega
 have nFo3 : ∀ k, k < bs.length → ¬ F k → ¬ F3 k := fun k hk hF h4 => (g3.new k h4).elim (nFo k hk hF) fun h5 => by omega
 have u0 : bs3[bs.length]? = some (.blk 3 1 [I n]) := by rw [g3.old bs.length (by omega) (nF4 bs.length (Nat.le_refl _) (by omega))]; exact v0
 have u1 : bs3[bs.length + 1]? = some (.blk 24 1 [I 0]) := by rw [g3.old (bs.length + 1) (by omega) (nF4 (bs.length + 1) (by omega) (by omega))]; exact v1
 have hjb := h.lt j h.fj
 have y0 : bs2[bs.length]? = some (.blk 3 1 [I n]) := by rw [fo bs.length (by omega) (.inl (nF4 bs.length (Nat.le_refl _) (by omega)))]; exact v0
 have y1 : bs2[j]? = some (.blk 99 9 (crtCells c sa sf4)) := by rw [fo j (by omega) (.inr rfl)]; exact hc1.acts.1
 subst hsf
 have le : D.eaddr 2 (.sl b 0 fs4.length) (I n) = some (.loc b (k * 2)) := by rw [hn]; exact eaddr_sl hkl
 have lc := ld_elc (k := 1) hsb (fun _ => rfl) hfk rfl
 have fx : D.sto 1 (.st bs2) (.loc b (k * 2 + 1)) (.sl (C.set bs.length (.blk 3 1 [I n])).length 0 (idx.length + 1)) = some (.st bs3) := fgt
 have w0 : bs5[bs.length]? = some (.blk 3 1 [I n]) := by rw [g5.old bs.length (by omega) (nF3 bs.length (Nat.le_refl _) (by omega))]; exact u0
 have w1 : bs5[bs.length + 1]? = some (.blk 24 1 [I 0]) := by rw [g5.old (bs.length + 1) (by omega) (nF3 (bs.length + 1) (by omega) (by omega))]; exact u1
 have t1 := sto_blk (k := 0) w0 (by simp) (d := I n) rfl
 have t2 : D.sto 1 (.st (bs5.set bs.length (.blk 3 1 ([I n].set 0 (I n))))) (.loc (bs ++ [D.blk 3 1 [I 0]]).length 0) (I 0) = some (.st (res1 bs5 bs.length n 0)) := by
  rw [e2]
  exact sto_blk (bs := bs5.set bs.length (.blk 3 1 ([I n].set 0 (I n)))) (i := bs.length + 1) (k := 0) (by rw [set_get_ne (by omega)]; exact w1) (by simp) (d := I 0) rfl
 have r1 := ld_blk (k := 0) (res1_n0 (B := bs5) (n := bs.length) (x := n) (e := 0) (by omega)) rfl
 have r2 := ld_blk (k := 0) (res1_n1 (B := bs5) (n := bs.length) (x := n) (e := 0) (by omega)) rfl
 have nF5 : ∀ k, bs.length ≤ k → k < bs.length + 3 → ¬ F5 k := fun k h1 h2 h3 => (g5.new k h3).elim (nF3 k h1 h2) fun h4 => by omega
 refine ⟨res1 bs5 bs.length n 0, F5, _, _, ?_, ⟨by rw [res1_len]; omega, fun k hk hF => ?_, fun k hk => ?_⟩, (g6.other (nF5 bs.length (Nat.le_refl _) (by omega)) _).other (nF5 (bs.length + 1) (by omega) (by omega)) _⟩
 ·refine ku26.deferO rfl ?_
  unfold u26
  have hr := h.res
  have h61 := c61 hr.acts
  have h62 := c62 hr.acts a ha
  obtain ⟨b0, hb0⟩ := last_at hr
  unfold early at *
  simp only [ups_cons, ups_nil, List.cons_append, List.nil_append]
  have hm' : decide ((l.length : Int) ≥ 2000) = false := by simp; omega
  repeat' (first | ((with_reducible apply nrm); (· simp only [sbe]; rfl)) | ((with_reducible apply u_iteF); (· rfl); (· first | exact rfl | exact hok | exact hm')) | ((with_reducible apply u_chk); (· rfl)) | ((with_reducible apply u_ld); (· rfl); (· rfl); (· first | exact ld_blk hr.acts.1 rfl | exact (hb0 (by omega)).2); (· simp only [sbe]; rfl)) | ((with_reducible apply u_eaddr); (· rfl); (· rfl); (· exact (hb0 (by omega)).1); (· simp only [sbe]; rfl)) | ((with_reducible apply u_lenL); (· rfl); (· exact hr.acts.2.len); (· simp only [sbe]; rfl)) | ((with_reducible apply u_m4); (· rfl); (· rfl); (· rfl); (· rfl); (· first | exact m4_put rfl | exact m4_get hg rfl); (· simp only [sbe]; rfl)) | ((with_reducible apply u_pred); (· rfl); (· omega); (· simp only [sbe]; rfl)) | ((with_reducible apply u_ev); (· rfl); (· simp only [sbe]; rfl)) | ((with_reducible apply u_call); (· rfl); (· rfl); (· first | exact h61 | exact h62); (· rfl); (· simp only [sbe]; rfl)) | ((with_reducible apply u_or); (· rfl)) | ((with_reducible apply u_and); (· rfl)) | ((with_reducible apply u_dfr); (· rfl); (· rfl)) | (with_reducible exact u_ret rfl rfl) | ((with_reducible intro hz); (try simp only [sbs] at hz)))
  refine u_wpcallvR rfl hf rfl rfl hd.hp rfl (by simp only [List.cons_append, List.nil_append]; rfl) ?_
  have h70 := c70 (bs := C.set bs.length (.blk 3 1 [I n])) a.facts ha
  repeat' (first | ((with_reducible apply nrm); (· simp only [sbe]; rfl)) | ((with_reducible apply u_iteT); (· rfl); (· exact hn')) | ((with_reducible apply u_chk); (· rfl)) | ((with_reducible apply u_stoa); (· rfl); (· rfl); (· rfl); (· rfl); (· rfl); (· first | exact fgs | exact gs); (· first | exact fx | exact gt); (· simp only [sbe]; rfl)) | ((with_reducible apply u_same); (· first | exact e_ld rfl rfl (ld_blk hc1.acts.1 rfl) | exact e_ld rfl rfl (ld_blk v0 rfl)); (· first | exact e_ld rfl rfl (ld_blk y1 rfl) | exact e_ld rfl rfl (ld_blk y0 rfl)); (· simp [D.same, Value.same]); (· simp only [sbe]; rfl)) | ((with_reducible apply u_ld); (· rfl); (· rfl); (· first | exact ld_blk v0 rfl | exact ld_blk hc1.acts.1 rfl | exact lc | exact ld_blk hc3.acts.1 rfl | exact ld_blk w0 rfl); (· simp only [sbe]; rfl)) | ((with_reducible apply u_eaddr); (· rfl); (· rfl); (· exact le); (· simp only [sbe]; rfl)) | ((with_reducible apply u_lenL); (· rfl); (· exact hc1.acts.2.len); (· simp only [sbe]; rfl)) | ((with_reducible apply u_sto); (· rfl); (· rfl); (· rfl); (· first | exact s1 | exact t1 | exact t2); (· simp only [sbe]; rfl)) | ((with_reducible apply u_apph); (· rfl); (· rfl); (· rfl); (· first | exact fa | exact ga); (· simp only [sbe]; rfl)) | ((with_reducible apply u_ev); (· rfl); (· simp only [sbe]; rfl)) | ((with_reducible apply u_call); (· rfl); (· rfl); (· exact h70); (· rfl); (· simp only [sbe]; rfl)) | (with_reducible refine u_join ?_) | ((with_reducible apply u_jump); (· rfl); (· rfl)) | (with_reducible refine at_jump ?_) | (with_reducible refine kj rfl ?_))
  refine u_ret rfl ⟨.st (res1 bs5 bs.length n 0), .tup [I n, I 0], c63n, e_two (e_ld rfl rfl r1) (e_ld rfl rfl ?_), rfl⟩
  rw [← e2] at r2
  exact r2
 ·rw [res1_old hk, g5.old k (by omega) (nFo3 k hk hF), g3.old k (by omega) (nFo k hk hF), vo k hk hF]
 ·rcases g5.new k hk with h1 | h1
  ·rcases g3.new k h1 with h1 | h1
   ·rcases hd.st.new k h1 with h2 | h2
    ·exact .inl h2
    ·rw [mid_len] at h2; exact .inr (by omega)
   ·exact .inr (by omega)
  ·exact .inr (by omega)

end Go.Am.Ct

/-
 Do is as the specification says.
-/
namespace Go.Am.Ct
open Go.Proofs Go.Am.Ap
set_option maxRecDepth 100000
set_option maxHeartbeats 2000000

variable {bs : List D} {j : Nat} {c : Cod} {l : List Akt} {a : Akt} {F : Nat → Prop}

structure CodOk (c : Cod) : Prop where
 arts : c.arts.length ≤ 500
 cars : 1 ≤ c.cars ∧ c.cars ≤ 200
 window : 0 ≤ c.window ∧ c.window ≤ 10000
 second : 0 ≤ c.second ∧ c.second ≤ 10000
 fee : 0 ≤ c.fee ∧ c.fee ≤ 1000000000
 price : 0 ≤ c.price ∧ c.price ≤ 1000000000

theorem codOk_of (h : okCode c = true) : CodOk c := by
 unfold okCode headBad at h
 simp only [Bool.and_eq_true, Bool.not_eq_true', Bool.or_eq_false_iff, Bool.not_eq_false', inR, decide_eq_true_eq] at h
 obtain ⟨⟨⟨⟨⟨⟨h1, h2⟩, h3⟩, h4⟩, h5⟩, h6⟩, _⟩ := h
 exact ⟨by omega, h1, h3, h4, h5, h6⟩

theorem lastSt_eq (h : Inv c l) (hs : 0 ≤ c.second) {k p : Nat} (hp : (pro l)[k]? = some p) :
  lastSt c l (idxOf l k p) = if 0 ≤ rlast l 6 k MM then 2 else if 0 ≤ rlast l 5 k MM then 5 else if 0 ≤ rlast l 4 k MM then 4 else if 0 ≤ rlast l 3 k MM then 3 else 1 := by
 have s := h.shape k
 have s1 := s.dx
 have s2 := s.da
 have s3 := s.aj
 have s4 := s.oa
 have s5 := s.oj
 have l3 := (rlast_lt l 3 k MM).2
 have l4 := (rlast_lt l 4 k MM).2
 have l5 := (rlast_lt l 5 k MM).2
 have l6 := (rlast_lt l 6 k MM).2
 have hpl := pro_lt hp
 have mono : ∀ x y : Nat, x ≤ y → y < l.length → (nth l x).minute ≤ (nth l y).minute := h.sorted
 have aft := h.after k p hp
 have minM : ∀ i, (nth l i).minute ≤ MM := fun i => by have := h.mins.nth i; unfold MM; omega
 have opos : ∀ {x : Int}, 0 ≤ x → opt x = [x.toNat] := fun hx => by unfold opt; rw [if_pos hx]
 unfold lastSt
 by_cases h6 : 0 ≤ rlast l 6 k MM
 ·skip
  have e : (idxOf l k p).getLast?.getD 0 = (rlast l 6 k MM).toNat := by
   unfold idxOf
   rw [opt_neg (show rlast l 3 k MM < 0 by omega), opt_neg (show rlast l 4 k MM < 0 by omega), opt_neg (show rlast l 5 k MM < 0 by omega), opos h6]
   simp
  have := aft 6 (by omega) h6
  rw [e, state_eq h hp (minM _) (mono _ _ (by omega) (by omega))]
  unfold stR
  simp only [rl_m h (by omega : (3 : Int) ≤ 6) (minM _), rl_m h (by omega : (3 : Int) ≤ 5) (minM _), rl_m h (by omega : (3 : Int) ≤ 4) (minM _), rl_m h (by omega : (3 : Int) ≤ 3) (minM _)]
  simp [h6]
 ·by_cases h5 : 0 ≤ rlast l 5 k MM
  ·have h4 : 0 ≤ rlast l 4 k MM := by omega
   have h3 : 0 ≤ rlast l 3 k MM := by omega
   have e : (idxOf l k p).getLast?.getD 0 = (rlast l 5 k MM).toNat := by
    unfold idxOf
    rw [opos h3, opos h4, opos h5, opt_neg (show rlast l 6 k MM < 0 by omega)]
    simp
   have := aft 5 (by omega) h5
   rw [e, state_eq h hp (minM _) (mono _ _ (by omega) (by omega))]
   unfold stR
   simp only [rl_m h (by omega : (3 : Int) ≤ 6) (minM _), rl_m h (by omega : (3 : Int) ≤ 5) (minM _), rl_m h (by omega : (3 : Int) ≤ 4) (minM _), rl_m h (by omega : (3 : Int) ≤ 3) (minM _)]
   simp [h6, h5]
  ·by_cases h4 : 0 ≤ rlast l 4 k MM
   ·have h3 : 0 ≤ rlast l 3 k MM := by omega
    have e : (idxOf l k p).getLast?.getD 0 = (rlast l 4 k MM).toNat := by
     unfold idxOf
     rw [opos h3, opos h4, opt_neg (show rlast l 5 k MM < 0 by omega), opt_neg (show rlast l 6 k MM < 0 by omega)]
     simp
    have := aft 4 (by omega) h4
    rw [e, state_eq h hp (minM _) (mono _ _ (by omega) (by omega))]
    unfold stR
    simp only [rl_m h (by omega : (3 : Int) ≤ 6) (minM _), rl_m h (by omega : (3 : Int) ≤ 5) (minM _), rl_m h (by omega : (3 : Int) ≤ 4) (minM _), rl_m h (by omega : (3 : Int) ≤ 3) (minM _)]
    simp [h6, h5, h4]
   ·by_cases h3 : 0 ≤ rlast l 3 k MM
    ·have : ¬ c.second < 0 := by omega
     have hn3 : ¬ rlast l 3 k MM < 0 := by omega
     have e : (idxOf l k p).getLast?.getD 0 = (rlast l 3 k MM).toNat := by
      unfold idxOf
      rw [opos h3, opt_neg (show rlast l 4 k MM < 0 by omega), opt_neg (show rlast l 5 k MM < 0 by omega), opt_neg (show rlast l 6 k MM < 0 by omega)]
      simp
     have := aft 3 (by omega) h3
     rw [e, state_eq h hp (minM _) (mono _ _ (by omega) (by omega))]
     unfold stR
     simp only [rl_m h (by omega : (3 : Int) ≤ 6) (minM _), rl_m h (by omega : (3 : Int) ≤ 5) (minM _), rl_m h (by omega : (3 : Int) ≤ 4) (minM _), rl_m h (by omega : (3 : Int) ≤ 3) (minM _)]
     simp [h6, h5, h4, h3, hn3, hs]
    ·skip
     have e : (idxOf l k p).getLast?.getD 0 = p := by
      unfold idxOf
      rw [opt_neg (show rlast l 3 k MM < 0 by omega), opt_neg (show rlast l 4 k MM < 0 by omega), opt_neg (show rlast l 5 k MM < 0 by omega), opt_neg (show rlast l 6 k MM < 0 by omega)]
      simp
     rw [e, state_eq h hp (minM _) (Int.le_refl _)]
     unfold stR
     simp only [rl_m h (by omega : (3 : Int) ≤ 6) (minM _), rl_m h (by omega : (3 : Int) ≤ 5) (minM _), rl_m h (by omega : (3 : Int) ≤ 4) (minM _), rl_m h (by omega : (3 : Int) ≤ 3) (minM _)]
     simp [h6, h5, h4, h3]

theorem ver_of (hA : Acc c l) {k p : Nat} (hp : (pro l)[k]? = some p) : 0 ≤ ver c.arts (nth l p).article (nth l p).at_ c.arts.length := by
 have g := good_of (hA p (pro_lt hp))
 have := g.prt (pro_kind (List.mem_of_getElem? hp))
 rcases ver_spec c.arts (nth l p).article (nth l p).at_ c.arts.length with ⟨h1, h2⟩ | ⟨jj, v, h1, _⟩
 ·have := this.2.1
  rw [h2] at this
  cases this
 ·omega

theorem pen_fits {p : Nat} (hp : (pro l).getD a.cse.toNat 0 = p) : penBad c (nth l p) a = !fitsR c l a := by
 unfold penBad fitsR
 unfold pro at hp
 rw [hp]
 cases a.upheld <;> simp [bne]

def Court (bs : List D) (F : Nat → Prop) (j : Nat) (c : Cod) (l : List Akt) : Prop := ∃ sa sf fs, Crt bs F j c l (qOf l) sa sf fs

def doN (c : Cod) (l : List Akt) (a : Akt) : Int := if refused c l a ≠ 0 then 0 else if a.kind = 1 then -1 else if a.kind = 2 then (pro l).length else a.cse
def doL (c : Cod) (l : List Akt) (a : Akt) : List Akt := if refused c l a = 0 then l ++ [a] else l

theorem Crt.caseAt {B : List D} {sa sf : D} {fs : List (Int × D)} (h : Crt B F j c l (qOf l) sa sf fs) (hA : Acc c l) {k p : Nat} (hp : (pro l)[k]? = some p) : ∃ s, CaseAt B c l fs k p s (idxOf l k p) := by
 obtain ⟨s, h1, h2⟩ := h.case k p _ (qOf_get hp)
 exact ⟨s, h1, h2, idx_lt hp, pro_lt hp, idx_ne, by have := idx_len (l := l) (k := k) (p := p); omega, ver_of hA hp⟩

theorem pubAt_b (hm : Mins l) (p : Int) : -1 ≤ pubAt l p ∧ pubAt l p ≤ 10000000 := by
 unfold pubAt
 split
 ·omega
 ·have := hm.nth (fi (isPub p) l).toNat
  omega

theorem mids (bs : List D) (F : Nat → Prop) (j : Nat) : Stp (mid bs j) F (mid bs j) F := Stp.refl _ _

theorem c26 (hA : Acc c l) (hc : CodOk c) (h : Court bs F j c l) (a : Akt) (ha : a.facts.length ≤ 1000000) :
  ∃ bs' F', FSpecWO Try.prog 26 (.st bs) [.loc j 0, a.d] (.ret (.tup [I (doN c l a), I (refused c l a)])) (.st bs') ∧ Stp bs F bs' F' ∧ Court bs' F' j c (doL c l a) := by
 obtain ⟨sa, sf, fs, h⟩ := h
 have hI := inv_of l hA
 have hlen := hI.len
 have hca := hc.arts
 have hL : l.length ≤ 1000000 := by omega
 have nope : ∀ e, refused c l a = e → e ≠ 0 → (∃ bs', FSpecWO Try.prog 26 (.st bs) [.loc j 0, a.d] (.ret (.tup [I 0, I e])) (.st bs') ∧ Stp bs F bs' F ∧ Crt bs' F j c l (qOf l) sa sf fs) → ∃ bs' F', FSpecWO Try.prog 26 (.st bs) [.loc j 0, a.d] (.ret (.tup [I (doN c l a), I (refused c l a)])) (.st bs') ∧ Stp bs F bs' F' ∧ Court bs' F' j c (doL c l a) := by
  rintro e he h0 ⟨bs', h1, h2, h3⟩
  unfold doN doL
  rw [he, if_pos h0, if_neg h0]
  exact ⟨bs', F, h1, h2, sa, sf, fs, h3⟩
 cases hbad : (!actOk c.cars a || early l a)
 rotate_left
 ·refine nope 2 ?_ (by omega) (c26arg h hL a ha hbad)
  unfold refused
  rw [if_pos]
  unfold early at hbad
  simp only [Bool.or_eq_true, Bool.not_eq_true', Bool.and_eq_true, decide_eq_true_eq] at hbad
  rcases hbad with hb | hb
  ·exact .inl hb
  ·exact .inr ⟨by omega, hb.2⟩
 have hbad' := hbad
 unfold early at hbad
 simp only [Bool.or_eq_false_iff, Bool.not_eq_false', Bool.and_eq_false_iff, decide_eq_false_iff_not] at hbad
 have hok := hbad.1
 have hnl : ¬ (actOk c.cars a = false ∨ 0 < l.length ∧ a.minute < (nth l (l.length - 1)).minute) := by
  rintro (hh | hh)
  ·rw [hok] at hh; cases hh
  ·rcases hbad.2 with h1 | h1 <;> omega
 have hR : refused c l a = if 2000 ≤ l.length then 4 else refused c l a := by
  split
  ·unfold refused; rw [if_neg hnl, if_pos (by omega)]
  ·rfl
 by_cases hm : 2000 ≤ l.length
 ·exact nope 4 (by rw [hR, if_pos hm]) (by omega) (c26long h hL a ha hbad' hm)
 have hm' : l.length < 2000 := by omega
 have hk := actOk_kind hok
 have hmin := actOk_minute hok
 have hmid := h.mid (j := j)
 have hpb := pubAt_b hI.mins a.paper
 have hql : (qOf l).length ≤ 1000000 := by rw [qOf_len]; have := prot_len l l.length; unfold pro; omega
 rcases hk with e | e | ⟨e, hcs⟩
 ·-- a paper
  have hg : D.mlook .int (I a.kind) (kents j) = some (some (0, .fn 64 [.loc j 0] [])) := by rw [e]; rfl
  have h64 := c64 hmid.acts hL a
  have hp : 0 ≤ pubAt l a.paper ↔ 0 ≤ fi (isPub a.paper) l := by
   unfold pubAt
   have := hI.mins.nth (fi (isPub a.paper) l).toNat
   split <;> omega
  have hr : refused c l a = if 0 ≤ fi (isPub a.paper) l then 6 else 0 := by unfold refused; rw [if_neg hnl, if_neg hm, if_pos e]
  by_cases h0 : 0 ≤ fi (isPub a.paper) l
  ·rw [if_pos (hp.2 h0)] at h64
   exact nope 6 (by rw [hr, if_pos h0]) (by omega) (c26pan h hL a ha hbad' hm' hg (by kernel_rfl) h64)
  ·rw [if_neg (fun hh => h0 (hp.1 hh))] at h64
   rw [if_neg h0] at hr
   have g := good_of hr
   obtain ⟨bs', F', sa', h1, h2, h3⟩ := c26pub h hL a ha hbad' hm' hg (by kernel_rfl) rfl ⟨h64, mids _ _ _, hmid⟩
   unfold doN doL
   rw [hr, if_neg (by omega), if_pos e, if_pos rfl]
   exact ⟨bs', F', h1, h2, sa', sf, fs, by rw [q_pub g e]; exact h3⟩
 ·-- a protest
  have hg : D.mlook .int (I a.kind) (kents j) = some (some (1, .fn 65 [.loc j 0] [])) := by rw [e]; rfl
  have hv : ver c.arts a.article a.at_ c.arts.length < 0 ↔ (verArt c.arts a.article a.at_ c.arts.length).isSome = false := by
   rcases ver_spec c.arts a.article a.at_ c.arts.length with ⟨h1, h2⟩ | ⟨jj, v, h1, _, h2⟩
   ·rw [h1, h2]; simp
   ·rw [h1, h2]; simp
  have hr : refused c l a = proR c l a := by
   unfold refused proR
   rw [if_neg hnl, if_neg hm, if_neg (by omega), if_pos e]
   have h2 := hI.mins.nth (fi (isPub a.paper) l).toNat
   unfold pubAt
   by_cases h0 : fi (isPub a.paper) l < 0
   ·rw [if_pos (.inl h0), if_pos h0, if_pos (.inl (by omega))]
   ·rw [if_neg h0]
    by_cases h1 : (verArt c.arts a.article a.at_ c.arts.length).isSome = false
    ·rw [if_pos (.inr h1), if_pos (.inr (hv.2 h1))]
    ·rw [if_neg (show ¬ (fi (isPub a.paper) l < 0 ∨ (verArt c.arts a.article a.at_ c.arts.length).isSome = false) from fun hh => hh.elim h0 h1), if_neg (show ¬ ((nth l (fi (isPub a.paper) l).toNat).minute < 0 ∨ ver c.arts a.article a.at_ c.arts.length < 0) from fun hh => hh.elim (fun h4 => by omega) fun h4 => h1 (hv.1 h4))]
  by_cases h0 : proR c l a = 0
  ·obtain ⟨C, F4, h1, h2, h3⟩ := c65y hmid (by omega) hL hql a hpb hmin h0
   have hrr := hr.trans h0
   have g := good_of hrr
   obtain ⟨bs', F', sa', fs', g1, g2, g3⟩ := c26upd h hL a ha hbad' hm' hg (by kernel_rfl) (k := (qOf l).length) (p := l.length) (idx := []) rfl (by rw [List.getElem?_append_right (Nat.le_refl _)]; simp) (by simp) ⟨h1, h2, h3⟩
   unfold doN doL
   rw [hrr, if_neg (by omega), if_neg (by omega), if_pos e, if_pos rfl]
   rw [qOf_len] at g1
   refine ⟨bs', F', g1, g2, sa', .sl (mid bs j).length 0 (fs.length + 1), fs', ?_⟩
   rw [q_pro hI g e]
   have : ((qOf l ++ [(l.length, [])]).set (qOf l).length (l.length, [] ++ [l.length])) = qOf l ++ [(l.length, [l.length])] := by
    rw [List.set_append_right _ _ (Nat.le_refl _)]; simp
   rw [← this]
   exact g3
  ·have h65 := c65n hmid (by omega) hL a hpb hmin h0
   exact nope _ hr h0 (c26pan h hL a ha hbad' hm' hg (by kernel_rfl) h65)
 ·-- an act of a case
  have hnk : ¬ a.kind = 1 ∧ ¬ a.kind = 2 := by omega
  by_cases hlen5 : ((prot l l.length).length : Int) ≤ a.cse
  ·have hr : refused c l a = 5 := by unfold refused; rw [if_neg hnl, if_neg hm, if_neg hnk.1, if_neg hnk.2, if_pos hlen5]
   have hfl : (fs.length : Int) ≤ a.cse := by rw [h.len, qOf_len]; exact hlen5
   rcases e with e | e | e | e
   ·exact nope 5 hr (by omega) (c26pan h hL a ha hbad' hm' (i := 2) (f := 66) (by rw [e]; rfl) (by kernel_rfl) (c66n hmid.acts hmid.files a hfl))
   ·exact nope 5 hr (by omega) (c26pan h hL a ha hbad' hm' (i := 3) (f := 67) (by rw [e]; rfl) (by kernel_rfl) (c67n hmid.acts hmid.files a hfl))
   ·exact nope 5 hr (by omega) (c26pan h hL a ha hbad' hm' (i := 4) (f := 68) (by rw [e]; rfl) (by kernel_rfl) (c68n hmid.acts hmid.files a hfl))
   ·exact nope 5 hr (by omega) (c26pan h hL a ha hbad' hm' (i := 5) (f := 69) (by rw [e]; rfl) (by kernel_rfl) (c69n hmid.acts hmid.files a hfl))
  obtain ⟨k, hck⟩ : ∃ k : Nat, a.cse = k := ⟨a.cse.toNat, by omega⟩
  obtain ⟨p, hp⟩ : ∃ p, (pro l)[k]? = some p := ⟨_, List.getElem?_eq_getElem (by unfold pro; omega)⟩
  obtain ⟨s, hF⟩ := hmid.caseAt hA hp
  have hgd : (pro l).getD a.cse.toNat 0 = p := by rw [hck]; simp [hp]
  have hlast := lastSt_eq hI hc.second.1 hp
  have hpen := pen_fits (c := c) hgd
  have hs := hI.shape k
  have s1 := hs.dx
  have s2 := hs.da
  have s3 := hs.aj
  have done : refused c l a = 0 → ∀ {f i : Nat}, D.mlook .int (I a.kind) (kents j) = some (some (i, .fn f [.loc j 0] [])) → callable Try.prog f = true → FSpecWO Try.prog f (.st (mid bs j)) [.loc j 0, a.d] (.ret (I a.cse)) (.st (mid bs j)) → ∃ bs' F', FSpecWO Try.prog 26 (.st bs) [.loc j 0, a.d] (.ret (.tup [I (doN c l a), I (refused c l a)])) (.st bs') ∧ Stp bs F bs' F' ∧ Court bs' F' j c (doL c l a) := by
   intro hr f i hg hcl hsp
   have g := good_of hr
   obtain ⟨bs', F', sa', fs', g1, g2, g3⟩ := c26upd h hL a ha hbad' hm' hg hcl hck (qOf_get hp) (by have := idx_len (l := l) (k := k) (p := p); omega) ⟨hsp, mids _ _ _, hmid⟩
   unfold doN doL
   rw [hr, if_neg (by omega), if_neg hnk.1, if_neg hnk.2, if_pos rfl]
   exact ⟨bs', F', g1, g2, sa', _, fs', by rw [q_upd hI g (by omega) hck hp]; exact g3⟩
  have hrr : ∀ {x : Int}, (let pr := nth l ((prot l l.length).getD a.cse.toNat 0)
    let x := rlast l 6 a.cse 10000000
    let d := rlast l 3 a.cse 10000000
    let ap := rlast l 4 a.cse 10000000
    let ju := rlast l 5 a.cse 10000000
    if a.kind = 3 then (if 0 ≤ x ∨ 0 ≤ d then 6 else if fitsR c l a = false then 7 else 0)
    else if a.kind = 4 then (if d < 0 ∨ 0 ≤ ap then 6 else if a.by_ ≠ pr.by_ ∧ a.by_ ≠ pr.against then 7 else if c.second < a.minute - (nth l d.toNat).minute then 8 else if a.paid ≠ c.price then 7 else 0)
    else if a.kind = 5 then (if ap < 0 ∨ 0 ≤ ju then 6 else if fitsR c l a = false then 7 else 0)
    else (if 0 ≤ x ∨ 0 ≤ d then 6 else if a.by_ ≠ pr.by_ then 7 else 0)) = x → refused c l a = x := by
   intro x hx
   unfold refused
   rw [if_neg hnl, if_neg hm, if_neg hnk.1, if_neg hnk.2, if_neg hlen5]
   exact hx
  rcases e with e | e | e | e
  ·have hg : D.mlook .int (I a.kind) (kents j) = some (some (2, .fn 66 [.loc j 0] [])) := by rw [e]; rfl
   have hsp := c66 hmid.acts (by omega) hI.mins hmid.files hF a hck
   rw [hpen] at hsp
   by_cases hx : 0 ≤ rlast l 6 k MM ∨ 0 ≤ rlast l 3 k MM
   ·have hl1 : lastSt c l (idxOf l k p) ≠ 1 := by rw [hlast]; repeat' split <;> omega
    rw [if_pos hl1] at hsp
    exact nope 6 (hrr (by simp only [e, hck]; rw [if_pos trivial, if_pos (by unfold MM at hx; exact hx)])) (by omega) (c26pan h hL a ha hbad' hm' hg (by kernel_rfl) hsp)
   ·have hl1 : ¬ lastSt c l (idxOf l k p) ≠ 1 := by rw [hlast]; repeat' split <;> omega
    rw [if_neg hl1] at hsp
    cases hfit : fitsR c l a
    ·rw [hfit, if_pos (show (!false) = true from rfl)] at hsp
     exact nope 7 (hrr (by simp only [e, hck]; rw [if_pos trivial, if_neg (by unfold MM at hx; exact hx), if_pos hfit])) (by omega) (c26pan h hL a ha hbad' hm' hg (by kernel_rfl) hsp)
    ·rw [hfit, if_neg (by decide)] at hsp
     exact done (hrr (by simp only [e, hck]; rw [if_pos trivial, if_neg (by unfold MM at hx; exact hx), if_neg (by rw [hfit]; decide)])) hg (by kernel_rfl) hsp
  ·have hg : D.mlook .int (I a.kind) (kents j) = some (some (3, .fn 67 [.loc j 0] [])) := by rw [e]; rfl
   have hsp := c67 hmid.acts hI.mins hmid.files hF a hck hmin
   have hr : refused c l a = appR c l p (idxOf l k p) a := by
    refine hrr ?_
    have hgd' : (prot l l.length).getD a.cse.toNat 0 = p := hgd
    simp only [hgd']
    simp only [e, hck]
    rw [if_neg (by omega), if_pos trivial]
    unfold appR
    by_cases hx : rlast l 3 k MM < 0 ∨ 0 ≤ rlast l 4 k MM
    ·have hl1 : lastSt c l (idxOf l k p) ≠ 3 := by rw [hlast]; repeat' split <;> omega
     rw [if_pos hl1, if_pos (by unfold MM at hx; exact hx)]
    ·have hl1 : ¬ lastSt c l (idxOf l k p) ≠ 3 := by rw [hlast]; repeat' split <;> omega
     have hle : (idxOf l k p).getLast?.getD 0 = (rlast l 3 k MM).toNat := by
      unfold idxOf
      rw [show opt (rlast l 3 k MM) = [(rlast l 3 k MM).toNat] by unfold opt; rw [if_pos (by omega)], opt_neg (show rlast l 6 k MM < 0 by omega), opt_neg (show rlast l 5 k MM < 0 by omega), opt_neg (show rlast l 4 k MM < 0 by omega)]
      simp
     rw [if_neg hl1, if_neg (by unfold MM at hx; exact hx), hle]
   rw [← hr] at hsp
   by_cases h0 : refused c l a = 0
   ·rw [if_neg (fun hh => hh h0)] at hsp
    exact done h0 hg (by kernel_rfl) hsp
   ·rw [if_pos h0] at hsp
    exact nope _ rfl h0 (c26pan h hL a ha hbad' hm' hg (by kernel_rfl) hsp)
  ·have hg : D.mlook .int (I a.kind) (kents j) = some (some (4, .fn 68 [.loc j 0] [])) := by rw [e]; rfl
   have hsp := c68 hmid.acts (by omega) hI.mins hmid.files hF a hck
   rw [hpen] at hsp
   by_cases hx : rlast l 4 k MM < 0 ∨ 0 ≤ rlast l 5 k MM
   ·have hl1 : lastSt c l (idxOf l k p) ≠ 4 := by rw [hlast]; repeat' split <;> omega
    rw [if_pos hl1] at hsp
    exact nope 6 (hrr (by simp only [e, hck]; rw [if_neg (by omega), if_neg (by omega), if_pos trivial, if_pos (by unfold MM at hx; exact hx)])) (by omega) (c26pan h hL a ha hbad' hm' hg (by kernel_rfl) hsp)
   ·have hl1 : ¬ lastSt c l (idxOf l k p) ≠ 4 := by rw [hlast]; repeat' split <;> omega
    rw [if_neg hl1] at hsp
    cases hfit : fitsR c l a
    ·rw [hfit, if_pos (show (!false) = true from rfl)] at hsp
     exact nope 7 (hrr (by simp only [e, hck]; rw [if_neg (by omega), if_neg (by omega), if_pos trivial, if_neg (by unfold MM at hx; exact hx), if_pos hfit])) (by omega) (c26pan h hL a ha hbad' hm' hg (by kernel_rfl) hsp)
    ·rw [hfit, if_neg (by decide)] at hsp
     exact done (hrr (by simp only [e, hck]; rw [if_neg (by omega), if_neg (by omega), if_pos trivial, if_neg (by unfold MM at hx; exact hx), if_neg (by rw [hfit]; decide)])) hg (by kernel_rfl) hsp
  ·have hg : D.mlook .int (I a.kind) (kents j) = some (some (5, .fn 69 [.loc j 0] [])) := by rw [e]; rfl
   have hsp := c69 hmid.acts hI.mins hmid.files hF a hck
   have hgd' : (prot l l.length).getD a.cse.toNat 0 = p := hgd
   by_cases hx : 0 ≤ rlast l 6 k MM ∨ 0 ≤ rlast l 3 k MM
   ·have hl1 : lastSt c l (idxOf l k p) ≠ 1 := by rw [hlast]; repeat' split <;> omega
    rw [if_pos hl1] at hsp
    exact nope 6 (hrr (by simp only [e, hck]; rw [if_neg (by omega), if_neg (by omega), if_neg (by omega), if_pos (by unfold MM at hx; exact hx)])) (by omega) (c26pan h hL a ha hbad' hm' hg (by kernel_rfl) hsp)
   ·have hl1 : ¬ lastSt c l (idxOf l k p) ≠ 1 := by rw [hlast]; repeat' split <;> omega
    rw [if_neg hl1] at hsp
    by_cases hb : a.by_ ≠ (nth l p).by_
    ·rw [if_pos hb] at hsp
     exact nope 7 (hrr (by simp only [hgd']; simp only [e, hck]; rw [if_neg (by omega), if_neg (by omega), if_neg (by omega), if_neg (by unfold MM at hx; exact hx), if_pos hb])) (by omega) (c26pan h hL a ha hbad' hm' hg (by kernel_rfl) hsp)
    ·rw [if_neg hb] at hsp
     exact done (hrr (by simp only [hgd']; simp only [e, hck]; rw [if_neg (by omega), if_neg (by omega), if_neg (by omega), if_neg (by unfold MM at hx; exact hx), if_neg hb])) hg (by kernel_rfl) hsp

end Go.Am.Ct
