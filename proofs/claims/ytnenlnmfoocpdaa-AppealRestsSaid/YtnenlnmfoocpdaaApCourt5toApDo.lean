/-
  Several texts, one behind the other.
-/
import Derived.Test.YtnenlnmfoocpdaaApU4toApCourt4
set_option linter.unusedSimpArgs false
set_option linter.unusedVariables false
/-
 Do: the acts.
-/
namespace Go.Am.Ct
set_option maxRecDepth 100000
set_option maxHeartbeats 4000000
open Go.Proofs Go.Am.Ap

variable {bs : List D} {j : Nat} {c : Cod} {l : List Akt} {sa sf : D} {fs : List (Int × D)} {F : Nat → Prop} {q : List (Nat × List Nat)}

attribute [local irreducible] inR

theorem e_two {env : List D} {x y : E} {d1 d2 : D} (hx : x.eval env = some d1) (hy : y.eval env = some d2) : (E.tcons x (.tcons y .tnil)).eval env = some (.tup [d1, d2]) := by
 simp only [E.eval, hx, hy, Option.bind_some, D.tcons]

def kents (j : Nat) : List D := [.tup [I 1, .fn 64 [.loc j 0] []], .tup [I 2, .fn 65 [.loc j 0] []], .tup [I 3, .fn 66 [.loc j 0] []], .tup [I 4, .fn 67 [.loc j 0] []], .tup [I 5, .fn 68 [.loc j 0] []], .tup [I 6, .fn 69 [.loc j 0] []]]

def mid (bs : List D) (j : Nat) : List D := res0 bs ++ [.mblk (kents j)]

theorem mid_n0 : (mid bs j)[bs.length]? = some (.blk 3 1 [I 0]) := by
 unfold mid
 rw [List.getElem?_append_left (by simp [res0])]
 exact res_n0
theorem mid_n1 : (mid bs j)[bs.length + 1]? = some (.blk 24 1 [I 0]) := by
 unfold mid
 rw [List.getElem?_append_left (by simp [res0])]
 have := res_n1 (bs := bs)
 simpa using this
theorem mid_len : (mid bs j).length = bs.length + 3 := by simp [mid, res0]
theorem mid_old {k : Nat} (h : k < bs.length) : (mid bs j)[k]? = bs[k]? := by
 simp only [mid, res0, List.append_assoc]
 rw [List.getElem?_append_left h]
theorem Crt.mid (h : Crt bs F j c l q sa sf fs) : Crt (mid bs j) F j c l q sa sf fs := h.res.more _

theorem c26pan (h : Crt bs F j c l q sa sf fs) (hL : l.length ≤ 1000000) (a : Akt) (ha : a.facts.length ≤ 1000000) (hok : (!actOk c.cars a || early l a) = false) (hm : l.length < 2000) {f i : Nat} (hg : D.mlook .int (I a.kind) (kents j) = some (some (i, .fn f [.loc j 0] []))) (hf : callable Try.prog f = true)
  {e : Int} (hp : FSpecWO Try.prog f (.st (mid bs j)) [.loc j 0, a.d] (.pan (refusal e)) (.st (mid bs j))) :
  ∃ bs', FSpecWO Try.prog 26 (.st bs) [.loc j 0, a.d] (.ret (.tup [I 0, I e])) (.st bs') ∧ Stp bs F bs' F ∧ Crt bs' F j c l q sa sf fs := by
 have e2 : (bs ++ [D.blk 3 1 [I 0]]).length = bs.length + 1 := by simp
 have g1 := ld_blk (k := 0) (res1_n0 (B := mid bs j) (n := bs.length) (x := 0) (e := e) (by rw [mid_len]; omega)) rfl
 have g2 := ld_blk (k := 0) (res1_n1 (B := mid bs j) (n := bs.length) (x := 0) (e := e) (by rw [mid_len]; omega)) rfl
 have h63 := c63p (e := e) (mid_n0 (bs := bs) (j := j)) mid_n1 (by omega)
 refine ⟨res1 (mid bs j) bs.length 0 e, ?_, ⟨by rw [res1_len, mid_len]; omega, fun k hk _ => by rw [res1_old hk, mid_old hk], fun k hk => .inl hk⟩, h.mid.keep (by rw [res1_len]; exact Nat.le_refl _) fun k hk => res1_old (h.lt k hk)⟩
 refine ku26.deferO rfl ?_
 unfold u26
 have hr := h.res
 have h61 := c61 hr.acts
 have h62 := c62 hr.acts a ha
 obtain ⟨b0, hb0⟩ := last_at hr
 unfold early at *
 simp only [ups_cons, ups_nil, List.cons_append, List.nil_append]
 have hm' : decide ((l.length : Int) ≥ 2000) = false := by simp; omega
 repeat' (first | ((with_reducible apply nrm); (· simp only [sbe]; rfl)) | ((with_reducible apply u_iteF); (· rfl); (· first | exact rfl | exact hok | exact hm')) | ((with_reducible apply u_chk); (· rfl)) | ((with_reducible apply u_ld); (· rfl); (· rfl); (· first | exact ld_blk hr.acts.1 rfl | exact (hb0 (by omega)).2); (· simp only [sbe]; rfl)) | ((with_reducible apply u_eaddr); (· rfl); (· rfl); (· exact (hb0 (by omega)).1); (· simp only [sbe]; rfl)) | ((with_reducible apply u_lenL); (· rfl); (· exact hr.acts.2.len); (· simp only [sbe]; rfl)) | ((with_reducible apply u_m4); (· rfl); (· rfl); (· rfl); (· rfl); (· first | exact m4_put rfl | exact m4_get hg rfl); (· simp only [sbe]; rfl)) | ((with_reducible apply u_pred); (· rfl); (· omega); (· simp only [sbe]; rfl)) | ((with_reducible apply u_ev); (· rfl); (· simp only [sbe]; rfl)) | ((with_reducible apply u_call); (· rfl); (· rfl); (· first | exact h61 | exact h62); (· rfl); (· simp only [sbe]; rfl)) | ((with_reducible apply u_or); (· rfl)) | ((with_reducible apply u_and); (· rfl)) | ((with_reducible apply u_dfr); (· rfl); (· rfl)) | (with_reducible exact u_ret rfl rfl) | ((with_reducible intro hz); (try simp only [sbs] at hz)))
 refine u_wpcallvP rfl hf rfl rfl hp rfl ⟨rfl, .st (res1 (mid bs j) bs.length 0 e), .tup [I 0, I e], ?_, ?_, rfl⟩
 ·show FSpecD Try.prog 63 (.st (mid bs j)) [.loc bs.length 0, .loc (bs ++ [D.blk 3 1 [I 0]]).length 0] (some (refusal e)) (.st (res1 (mid bs j) bs.length 0 e))
  rw [e2]
  exact h63
 ·refine e_two (e_ld rfl rfl g1) (e_ld rfl rfl ?_)
  rw [← e2] at g2
  exact g2

structure Done (bs : List D) (F : Nat → Prop) (j : Nat) (c : Cod) (l : List Akt) (a : Akt) (f : FuncId) (n : Int) (C : List D) (F4 : Nat → Prop) (q4 : List (Nat × List Nat)) (sf4 : D) (fs4 : List (Int × D)) (sa : D) : Prop where
 hp : FSpecWO Try.prog f (.st (mid bs j)) [.loc j 0, a.d] (.ret (I n)) (.st C)
 st : Stp (mid bs j) F C F4
 crt : Crt C F4 j c l q4 sa sf4 fs4



theorem c26pub (h : Crt bs F j c l q sa sf fs) (hL : l.length ≤ 1000000) (a : Akt) (ha : a.facts.length ≤ 1000000) (hok : (!actOk c.cars a || early l a) = false) (hm : l.length < 2000) {f i : Nat} (hg : D.mlook .int (I a.kind) (kents j) = some (some (i, .fn f [.loc j 0] []))) (hf : callable Try.prog f = true)
  {C : List D} {F4 : Nat → Prop} {q4 : List (Nat × List Nat)} {sf4 : D} {fs4 : List (Int × D)} {n : Int} (hn : n = -1) (hd : Done bs F j c l a f n C F4 q4 sf4 fs4 sa) :
  ∃ bs' F' sa' , FSpecWO Try.prog 26 (.st bs) [.loc j 0, a.d] (.ret (.tup [I n, I 0])) (.st bs') ∧ Stp bs F bs' F' ∧ Crt bs' F' j c (l ++ [a]) q4 sa' sf4 fs4 := by
 have e2 : (bs ++ [D.blk 3 1 [I 0]]).length = bs.length + 1 := by simp
 have hC := hd.st.len
 rw [mid_len] at hC
 have nF4 : ∀ k, bs.length ≤ k → k < bs.length + 3 → ¬ F4 k := fun k h1 h2 h3 => by
  rcases hd.st.new k h3 with h4 | h4
  ·have := h.lt k h4; omega
  ·rw [mid_len] at h4; omega
 have nF : ∀ k, bs.length ≤ k → ¬ F k := fun k h1 h2 => by have := h.lt k h2; omega
 have hC0 : C[bs.length]? = some (.blk 3 1 [I 0]) := by rw [hd.st.old _ (by rw [mid_len]; omega) (nF _ (Nat.le_refl _))]; exact mid_n0
 have hC1 : C[bs.length + 1]? = some (.blk 24 1 [I 0]) := by rw [hd.st.old _ (by rw [mid_len]; omega) (nF _ (by omega))]; exact mid_n1
 have s1 := sto_blk (k := 0) hC0 (by simp) (d := I n) rfl
 have hc1 := hd.crt.other (nF4 bs.length (Nat.le_refl _) (by omega)) (.blk 3 1 [I n])
 have l1 : (C.set bs.length (.blk 3 1 [I n])).length = C.length := by simp
 have v0 : (C.set bs.length (.blk 3 1 [I n]))[bs.length]? = some (.blk 3 1 [I n]) := set_get (by omega)
 have v1 : (C.set bs.length (.blk 3 1 [I n]))[bs.length + 1]? = some (.blk 24 1 [I 0]) := by rw [set_get_ne (by omega)]; exact hC1
 have vo : ∀ k, k < bs.length → ¬ F k → (C.set bs.length (.blk 3 1 [I n]))[k]? = bs[k]? := fun k hk hF => by rw [set_get_ne (by omega), hd.st.old k (by rw [mid_len]; omega) hF, mid_old hk]
 have nFo : ∀ k, k < bs.length → ¬ F k → ¬ F4 k := fun k hk hF h4 => (hd.st.new k h4).elim hF fun h5 => by rw [mid_len] at h5; omega
 obtain ⟨bs4, bs5, F5, ga, gs, gt, g5, g6⟩ := hc1.actsAppend hL a
 have h5l := g5.len
 have hn' : decide (n ≥ 0) = false := by rw [hn]; rfl
 have w0 : bs5[bs.length]? = some (.blk 3 1 [I n]) := by rw [g5.old bs.length (by omega) (nF4 bs.length (Nat.le_refl _) (by omega))]; exact v0
 have w1 : bs5[bs.length + 1]? = some (.blk 24 1 [I 0]) := by rw [g5.old (bs.length + 1) (by omega) (nF4 (bs.length + 1) (by omega) (by omega))]; exact v1
 have t1 := sto_blk (k := 0) w0 (by simp) (d := I n) rfl
 have t2 : D.sto 1 (.st (bs5.set bs.length (.blk 3 1 ([I n].set 0 (I n))))) (.loc (bs ++ [D.blk 3 1 [I 0]]).length 0) (I 0) = some (.st (res1 bs5 bs.length n 0)) := by
  rw [e2]
  exact sto_blk (bs := bs5.set bs.length (.blk 3 1 ([I n].set 0 (I n)))) (i := bs.length + 1) (k := 0) (by rw [set_get_ne (by omega)]; exact w1) (by simp) (d := I 0) rfl
 have r1 := ld_blk (k := 0) (res1_n0 (B := bs5) (n := bs.length) (x := n) (e := 0) (by omega)) rfl
 have r2 := ld_blk (k := 0) (res1_n1 (B := bs5) (n := bs.length) (x := n) (e := 0) (by omega)) rfl
 have nF5 : ∀ k, bs.length ≤ k → k < bs.length + 3 → ¬ F5 k := fun k h1 h2 h3 => (g5.new k h3).elim (nF4 k h1 h2) fun h4 => by omega
 refine ⟨res1 bs5 bs.length n 0, F5, _, ?_, ⟨by rw [res1_len]; omega, fun k hk hF => ?_, fun k hk => ?_⟩, (g6.other (nF5 bs.length (Nat.le_refl _) (by omega)) _).other (nF5 (bs.length + 1) (by omega) (by omega)) _⟩
 ·refine ku26.deferO rfl ?_
  unfold u26
  have hr := h.res
  have h61 := c61 hr.acts
  have h62 := c62 hr.acts a ha
  obtain ⟨b0, hb0⟩ := last_at hr
  unfold early at *
  simp only [ups_cons, ups_nil, List.cons_append, List.nil_append]
  have hm' : decide ((l.length : Int) ≥ 2000) = false := by simp; omega
  repeat' (first | ((with_reducible apply nrm); (· simp only [sbe]; rfl)) | ((with_reducible apply u_iteF); (· rfl); (· first | exact rfl | exact hok | exact hm')) | ((with_reducible apply u_chk); (· rfl)) | ((with_reducible apply u_ld); (· rfl); (· rfl); (· first | exact ld_blk hr.acts.1 rfl | exact (hb0 (by omega)).2); (· simp only [sbe]; rfl)) | ((with_reducible apply u_eaddr); (· rfl); (· rfl); (· exact (hb0 (by omega)).1); (· simp only [sbe]; rfl)) | ((with_reducible apply u_lenL); (· rfl); (· exact hr.acts.2.len); (· simp only [sbe]; rfl)) | ((with_reducible apply u_m4); (· rfl); (· rfl); (· rfl); (· rfl); (· first | exact m4_put rfl | exact m4_get hg rfl); (· simp only [sbe]; rfl)) | ((with_reducible apply u_pred); (· rfl); (· omega); (· simp only [sbe]; rfl)) | ((with_reducible apply u_ev); (· rfl); (· simp only [sbe]; rfl)) | ((with_reducible apply u_call); (· rfl); (· rfl); (· first | exact h61 | exact h62); (· rfl); (· simp only [sbe]; rfl)) | ((with_reducible apply u_or); (· rfl)) | ((with_reducible apply u_and); (· rfl)) | ((with_reducible apply u_dfr); (· rfl); (· rfl)) | (with_reducible exact u_ret rfl rfl) | ((with_reducible intro hz); (try simp only [sbs] at hz)))
  refine u_wpcallvR rfl hf rfl rfl hd.hp rfl (by simp only [List.cons_append, List.nil_append]; rfl) ?_
  have h70 := c70 (bs := C.set bs.length (.blk 3 1 [I n])) a.facts ha
  repeat' (first | ((with_reducible apply nrm); (· simp only [sbe]; rfl)) | ((with_reducible apply u_iteF); (· rfl); (· exact hn')) | ((with_reducible apply u_chk); (· rfl)) | ((with_reducible apply u_stoa); (· rfl); (· rfl); (· rfl); (· rfl); (· rfl); (· exact gs); (· exact gt); (· simp only [sbe]; rfl)) | ((with_reducible apply u_ld); (· rfl); (· rfl); (· first | exact ld_blk v0 rfl | exact ld_blk hc1.acts.1 rfl | exact ld_blk w0 rfl); (· simp only [sbe]; rfl)) | ((with_reducible apply u_sto); (· rfl); (· rfl); (· rfl); (· first | exact s1 | exact t1 | exact t2); (· simp only [sbe]; rfl)) | ((with_reducible apply u_apph); (· rfl); (· rfl); (· rfl); (· exact ga); (· simp only [sbe]; rfl)) | ((with_reducible apply u_ev); (· rfl); (· simp only [sbe]; rfl)) | ((with_reducible apply u_call); (· rfl); (· rfl); (· exact h70); (· rfl); (· simp only [sbe]; rfl)) | (with_reducible refine u_join ?_) | ((with_reducible apply u_jump); (· rfl); (· rfl)) | (with_reducible refine at_jump ?_) | (with_reducible refine kj rfl ?_))
  refine u_ret rfl ⟨.st (res1 bs5 bs.length n 0), .tup [I n, I 0], c63n, e_two (e_ld rfl rfl r1) (e_ld rfl rfl ?_), rfl⟩
  rw [← e2] at r2
  exact r2
 ·rw [res1_old hk, g5.old k (by omega) (nFo k hk hF), vo k hk hF]
 ·rcases g5.new k hk with h1 | h1
  ·rcases hd.st.new k h1 with h2 | h2
   ·exact .inl h2
   ·rw [mid_len] at h2; exact .inr (by omega)
  ·exact .inr (by omega)

theorem c26upd (h : Crt bs F j c l q sa sf fs) (hL : l.length ≤ 1000000) (a : Akt) (ha : a.facts.length ≤ 1000000) (hok : (!actOk c.cars a || early l a) = false) (hm : l.length < 2000) {f i : Nat} (hg : D.mlook .int (I a.kind) (kents j) = some (some (i, .fn f [.loc j 0] []))) (hf : callable Try.prog f = true)
  {C : List D} {F4 : Nat → Prop} {q4 : List (Nat × List Nat)} {sf4 : D} {fs4 : List (Int × D)} {n : Int} {k p : Nat} {idx : List Nat} (hn : n = k) (hk : q4[k]? = some (p, idx)) (hx : idx.length ≤ 1000000) (hd : Done bs F j c l a f n C F4 q4 sf4 fs4 sa) :
  ∃ bs' F' sa' fs', FSpecWO Try.prog 26 (.st bs) [.loc j 0, a.d] (.ret (.tup [I n, I 0])) (.st bs') ∧ Stp bs F bs' F' ∧ Crt bs' F' j c (l ++ [a]) (q4.set k (p, idx ++ [l.length])) sa' sf4 fs' := by
 have e2 : (bs ++ [D.blk 3 1 [I 0]]).length = bs.length + 1 := by simp
 have hC := hd.st.len
 rw [mid_len] at hC
 have nF4 : ∀ k, bs.length ≤ k → k < bs.length + 3 → ¬ F4 k := fun k h1 h2 h3 => by
  rcases hd.st.new k h3 with h4 | h4
  ·have := h.lt k h4; omega
  ·rw [mid_len] at h4; omega
 have nF : ∀ k, bs.length ≤ k → ¬ F k := fun k h1 h2 => by have := h.lt k h2; omega
 have hC0 : C[bs.length]? = some (.blk 3 1 [I 0]) := by rw [hd.st.old _ (by rw [mid_len]; omega) (nF _ (Nat.le_refl _))]; exact mid_n0
 have hC1 : C[bs.length + 1]? = some (.blk 24 1 [I 0]) := by rw [hd.st.old _ (by rw [mid_len]; omega) (nF _ (by omega))]; exact mid_n1
 have s1 := sto_blk (k := 0) hC0 (by simp) (d := I n) rfl
 have hc1 := hd.crt.other (nF4 bs.length (Nat.le_refl _) (by omega)) (.blk 3 1 [I n])
 have l1 : (C.set bs.length (.blk 3 1 [I n])).length = C.length := by simp
 have v0 : (C.set bs.length (.blk 3 1 [I n]))[bs.length]? = some (.blk 3 1 [I n]) := set_get (by omega)
 have v1 : (C.set bs.length (.blk 3 1 [I n]))[bs.length + 1]? = some (.blk 24 1 [I 0]) := by rw [set_get_ne (by omega)]; exact hC1
 have vo : ∀ k, k < bs.length → ¬ F k → (C.set bs.length (.blk 3 1 [I n]))[k]? = bs[k]? := fun k hk hF => by rw [set_get_ne (by omega), hd.st.old k (by rw [mid_len]; omega) hF, mid_old hk]
 have nFo : ∀ k, k < bs.length → ¬ F k → ¬ F4 k := fun k hk hF h4 => (hd.st.new k h4).elim hF fun h5 => by rw [mid_len] at h5; omega
 obtain ⟨bs2, bs3, F3, b, s, hsf, hsb, hfk, fa, fgs, fgt, fo, g3, hc3⟩ := hc1.fileAppend hk hx l.length
 obtain ⟨bs4, bs5, F5, ga, gs, gt, g5, g6⟩ := hc3.actsAppend hL a
 have h5l := g5.len
 have h3l := g3.len
 have hn' : decide (n ≥ 0) = true := by rw [hn]; simp
 have hkl := (List.getElem?_eq_some_iff.1 hfk).1
 have nF3 : ∀ k, bs.length ≤ k → k < bs.length + 3 → ¬ F3 k := fun k h1 h2 h3 => (g3.new k h3).elim (nF4 k h1 h2) fun h4 => by omega
 have nFo3 : ∀ k, k < bs.length → ¬ F k → ¬ F3 k := fun k hk hF h4 => (g3.new k h4).elim (nFo k hk hF) fun h5 => by omega
 have u0 : bs3[bs.length]? = some (.blk 3 1 [I n]) := by rw [g3.old bs.length (by omega) (nF4 bs.length (Nat.le_refl _) (by omega))]; exact v0
 have u1 : bs3[bs.length + 1]? = some (.blk 24 1 [I 0]) := by rw [g3.old (bs.length + 1) (by omega) (nF4 (bs.length + 1) (by omega) (by omega))]; exact v1
 have hjb := h.lt j h.fj
 have y0 : bs2[bs.length]? = some (.blk 3 1 [I n]) := by rw [fo bs.length (by omega) (.inl (nF4 bs.length (Nat.le_refl _) (by omega)))]; exact v0
 have y1 : bs2[j]? = some (.blk 99 9 (crtCells c sa sf4)) := by rw [fo j (by omega) (.inr rfl)]; exact hc1.acts.1
 subst hsf
 have le : D.eaddr 2 (.sl b 0 fs4.length) (I n) = some (.loc b (k * 2)) := by rw [hn]; exact eaddr_sl hkl
 have lc := ld_elc (k := 1) hsb (fun _ => rfl) hfk rfl
 have fx : D.sto 1 (.st bs2) (.loc b (k * 2 + 1)) (.sl (C.set bs.length (.blk 3 1 [I n])).length 0 (idx.length + 1)) = some (.st bs3) := fgt
 have w0 : bs5[bs.length]? = some (.blk 3 1 [I n]) := by rw [g5.old bs.length (by omega) (nF3 bs.length (Nat.le_refl _) (by omega))]; exact u0
 have w1 : bs5[bs.length + 1]? = some (.blk 24 1 [I 0]) := by rw [g5.old (bs.length + 1) (by omega) (nF3 (bs.length + 1) (by omega) (by omega))]; exact u1
 have t1 := sto_blk (k := 0) w0 (by simp) (d := I n) rfl
 have t2 : D.sto 1 (.st (bs5.set bs.length (.blk 3 1 ([I n].set 0 (I n))))) (.loc (bs ++ [D.blk 3 1 [I 0]]).length 0) (I 0) = some (.st (res1 bs5 bs.length n 0)) := by
  rw [e2]
  exact sto_blk (bs := bs5.set bs.length (.blk 3 1 ([I n].set 0 (I n)))) (i := bs.length + 1) (k := 0) (by rw [set_get_ne (by omega)]; exact w1) (by simp) (d := I 0) rfl
 have r1 := ld_blk (k := 0) (res1_n0 (B := bs5) (n := bs.length) (x := n) (e := 0) (by omega)) rfl
 have r2 := ld_blk (k := 0) (res1_n1 (B := bs5) (n := bs.length) (x := n) (e := 0) (by omega)) rfl
 have nF5 : ∀ k, bs.length ≤ k → k < bs.length + 3 → ¬ F5 k := fun k h1 h2 h3 => (g5.new k h3).elim (nF3 k h1 h2) fun h4 => by omega
 refine ⟨res1 bs5 bs.length n 0, F5, _, _, ?_, ⟨by rw [res1_len]; omega, fun k hk hF => ?_, fun k hk => ?_⟩, (g6.other (nF5 bs.length (Nat.le_refl _) (by omega)) _).other (nF5 (bs.length + 1) (by omega) (by omega)) _⟩
 ·refine ku26.deferO rfl ?_
  unfold u26
  have hr := h.res
  have h61 := c61 hr.acts
  have h62 := c62 hr.acts a ha
  obtain ⟨b0, hb0⟩ := last_at hr
  unfold early at *
  simp only [ups_cons, ups_nil, List.cons_append, List.nil_append]
  have hm' : decide ((l.length : Int) ≥ 2000) = false := by simp; omega
  repeat' (first | ((with_reducible apply nrm); (· simp only [sbe]; rfl)) | ((with_reducible apply u_iteF); (· rfl); (· first | exact rfl | exact hok | exact hm')) | ((with_reducible apply u_chk); (· rfl)) | ((with_reducible apply u_ld); (· rfl); (· rfl); (· first | exact ld_blk hr.acts.1 rfl | exact (hb0 (by omega)).2); (· simp only [sbe]; rfl)) | ((with_reducible apply u_eaddr); (· rfl); (· rfl); (· exact (hb0 (by omega)).1); (· simp only [sbe]; rfl)) | ((with_reducible apply u_lenL); (· rfl); (· exact hr.acts.2.len); (· simp only [sbe]; rfl)) | ((with_reducible apply u_m4); (· rfl); (· rfl); (· rfl); (· rfl); (· first | exact m4_put rfl | exact m4_get hg rfl); (· simp only [sbe]; rfl)) | ((with_reducible apply u_pred); (· rfl); (· omega); (· simp only [sbe]; rfl)) | ((with_reducible apply u_ev); (· rfl); (· simp only [sbe]; rfl)) | ((with_reducible apply u_call); (· rfl); (· rfl); (· first | exact h61 | exact h62); (· rfl); (· simp only [sbe]; rfl)) | ((with_reducible apply u_or); (· rfl)) | ((with_reducible apply u_and); (· rfl)) | ((with_reducible apply u_dfr); (· rfl); (· rfl)) | (with_reducible exact u_ret rfl rfl) | ((with_reducible intro hz); (try simp only [sbs] at hz)))
  refine u_wpcallvR rfl hf rfl rfl hd.hp rfl (by simp only [List.cons_append, List.nil_append]; rfl) ?_
  have h70 := c70 (bs := C.set bs.length (.blk 3 1 [I n])) a.facts ha
  repeat' (first | ((with_reducible apply nrm); (· simp only [sbe]; rfl)) | ((with_reducible apply u_iteT); (· rfl); (· exact hn')) | ((with_reducible apply u_chk); (· rfl)) | ((with_reducible apply u_stoa); (· rfl); (· rfl); (· rfl); (· rfl); (· rfl); (· first | exact fgs | exact gs); (· first | exact fx | exact gt); (· simp only [sbe]; rfl)) | ((with_reducible apply u_same); (· first | exact e_ld rfl rfl (ld_blk hc1.acts.1 rfl) | exact e_ld rfl rfl (ld_blk v0 rfl)); (· first | exact e_ld rfl rfl (ld_blk y1 rfl) | exact e_ld rfl rfl (ld_blk y0 rfl)); (· simp [D.same, Value.same]); (· simp only [sbe]; rfl)) | ((with_reducible apply u_ld); (· rfl); (· rfl); (· first | exact ld_blk v0 rfl | exact ld_blk hc1.acts.1 rfl | exact lc | exact ld_blk hc3.acts.1 rfl | exact ld_blk w0 rfl); (· simp only [sbe]; rfl)) | ((with_reducible apply u_eaddr); (· rfl); (· rfl); (· exact le); (· simp only [sbe]; rfl)) | ((with_reducible apply u_lenL); (· rfl); (· exact hc1.acts.2.len); (· simp only [sbe]; rfl)) | ((with_reducible apply u_sto); (· rfl); (· rfl); (· rfl); (· first | exact s1 | exact t1 | exact t2); (· simp only [sbe]; rfl)) | ((with_reducible apply u_apph); (· rfl); (· rfl); (· rfl); (· first | exact fa | exact ga); (· simp only [sbe]; rfl)) | ((with_reducible apply u_ev); (· rfl); (· simp only [sbe]; rfl)) | ((with_reducible apply u_call); (· rfl); (· rfl); (· exact h70); (· rfl); (· simp only [sbe]; rfl)) | (with_reducible refine u_join ?_) | ((with_reducible apply u_jump); (· rfl); (· rfl)) | (with_reducible refine at_jump ?_) | (with_reducible refine kj rfl ?_))
  refine u_ret rfl ⟨.st (res1 bs5 bs.length n 0), .tup [I n, I 0], c63n, e_two (e_ld rfl rfl r1) (e_ld rfl rfl ?_), rfl⟩
  rw [← e2] at r2
  exact r2
 ·rw [res1_old hk, g5.old k (by omega) (nFo3 k hk hF), g3.old k (by omega) (nFo k hk hF), vo k hk hF]
 ·rcases g5.new k hk with h1 | h1
  ·rcases g3.new k h1 with h1 | h1
   ·rcases hd.st.new k h1 with h2 | h2
    ·exact .inl h2
    ·rw [mid_len] at h2; exact .inr (by omega)
   ·exact .inr (by omega)
  ·exact .inr (by omega)

end Go.Am.Ct

/-
 Do is as the specification says.
-/
namespace Go.Am.Ct
open Go.Proofs Go.Am.Ap
set_option maxRecDepth 100000
set_option maxHeartbeats 2000000

variable {bs : List D} {j : Nat} {c : Cod} {l : List Akt} {a : Akt} {F : Nat → Prop}

structure CodOk (c : Cod) : Prop where
 arts : c.arts.length ≤ 500
 cars : 1 ≤ c.cars ∧ c.cars ≤ 200
 window : 0 ≤ c.window ∧ c.window ≤ 10000
 second : 0 ≤ c.second ∧ c.second ≤ 10000
 fee : 0 ≤ c.fee ∧ c.fee ≤ 1000000000
 price : 0 ≤ c.price ∧ c.price ≤ 1000000000

theorem codOk_of (h : okCode c = true) : CodOk c := by
 unfold okCode headBad at h
 simp only [Bool.and_eq_true, Bool.not_eq_true', Bool.or_eq_false_iff, Bool.not_eq_false', inR, decide_eq_true_eq] at h
 obtain ⟨⟨⟨⟨⟨⟨h1, h2⟩, h3⟩, h4⟩, h5⟩, h6⟩, _⟩ := h
 exact ⟨by omega, h1, h3, h4, h5, h6⟩

theorem lastSt_eq (h : Inv c l) (hs : 0 ≤ c.second) {k p : Nat} (hp : (pro l)[k]? = some p) :
  lastSt c l (idxOf l k p) = if 0 ≤ rlast l 6 k MM then 2 else if 0 ≤ rlast l 5 k MM then 5 else if 0 ≤ rlast l 4 k MM then 4 else if 0 ≤ rlast l 3 k MM then 3 else 1 := by
 have s := h.shape k
 have s1 := s.dx
 have s2 := s.da
 have s3 := s.aj
 have s4 := s.oa
 have s5 := s.oj
 have l3 := (rlast_lt l 3 k MM).2
 have l4 := (rlast_lt l 4 k MM).2
 have l5 := (rlast_lt l 5 k MM).2
 have l6 := (rlast_lt l 6 k MM).2
 have hpl := pro_lt hp
 have mono : ∀ x y : Nat, x ≤ y → y < l.length → (nth l x).minute ≤ (nth l y).minute := h.sorted
 have aft := h.after k p hp
 have minM : ∀ i, (nth l i).minute ≤ MM := fun i => by have := h.mins.nth i; unfold MM; omega
 have opos : ∀ {x : Int}, 0 ≤ x → opt x = [x.toNat] := fun hx => by unfold opt; rw [if_pos hx]
 unfold lastSt
 by_cases h6 : 0 ≤ rlast l 6 k MM
 ·skip
  have e : (idxOf l k p).getLast?.getD 0 = (rlast l 6 k MM).toNat := by
   unfold idxOf
   rw [opt_neg (show rlast l 3 k MM < 0 by omega), opt_neg (show rlast l 4 k MM < 0 by omega), opt_neg (show rlast l 5 k MM < 0 by omega), opos h6]
   simp
  have := aft 6 (by omega) h6
  rw [e, state_eq h hp (minM _) (mono _ _ (by omega) (by omega))]
  unfold stR
  simp only [rl_m h (by omega : (3 : Int) ≤ 6) (minM _), rl_m h (by omega : (3 : Int) ≤ 5) (minM _), rl_m h (by omega : (3 : Int) ≤ 4) (minM _), rl_m h (by omega : (3 : Int) ≤ 3) (minM _)]
  simp [h6]
 ·by_cases h5 : 0 ≤ rlast l 5 k MM
  ·have h4 : 0 ≤ rlast l 4 k MM := by omega
   have h3 : 0 ≤ rlast l 3 k MM := by omega
   have e : (idxOf l k p).getLast?.getD 0 = (rlast l 5 k MM).toNat := by
    unfold idxOf
    rw [opos h3, opos h4, opos h5, opt_neg (show rlast l 6 k MM < 0 by omega)]
    simp
   have := aft 5 (by omega) h5
   rw [e, state_eq h hp (minM _) (mono _ _ (by omega) (by omega))]
   unfold stR
   simp only [rl_m h (by omega : (3 : Int) ≤ 6) (minM _), rl_m h (by omega : (3 : Int) ≤ 5) (minM _), rl_m h (by omega : (3 : Int) ≤ 4) (minM _), rl_m h (by omega : (3 : Int) ≤ 3) (minM _)]
   simp [h6, h5]
  ·by_cases h4 : 0 ≤ rlast l 4 k MM
   ·have h3 : 0 ≤ rlast l 3 k MM := by omega
    have e : (idxOf l k p).getLast?.getD 0 = (rlast l 4 k MM).toNat := by
     unfold idxOf
     rw [opos h3, opos h4, opt_neg (show rlast l 5 k MM < 0 by omega), opt_neg (show rlast l 6 k MM < 0 by omega)]
     simp
    have := aft 4 (by omega) h4
    rw [e, state_eq h hp (minM _) (mono _ _ (by omega) (by omega))]
    unfold stR
    simp only [rl_m h (by omega : (3 : Int) ≤ 6) (minM _), rl_m h (by omega : (3 : Int) ≤ 5) (minM _), rl_m h (by omega : (3 : Int) ≤ 4) (minM _), rl_m h (by omega : (3 : Int) ≤ 3) (minM _)]
    simp [h6, h5, h4]
   ·by_cases h3 : 0 ≤ rlast l 3 k MM
    ·have : ¬ c.second < 0 := by omega
     have hn3 : ¬ rlast l 3 k MM < 0 := by omega
     have e : (idxOf l k p).getLast?.getD 0 = (rlast l 3 k MM).toNat := by
      unfold idxOf
      rw [opos h3, opt_neg (show rlast l 4 k MM < 0 by omega), opt_neg (show rlast l 5 k MM < 0 by omega), opt_neg (show rlast l 6 k MM < 0 by omega)]
      simp
     have := aft 3 (by omega) h3
     rw [e, state_eq h hp (minM _) (mono _ _ (by omega) (by omega))]
     unfold stR
     simp only [rl_m h (by omega : (3 : Int) ≤ 6) (minM _), rl_m h (by omega : (3 : Int) ≤ 5) (minM _), rl_m h (by omega : (3 : Int) ≤ 4) (minM _), rl_m h (by omega : (3 : Int) ≤ 3) (minM _)]
     simp [h6, h5, h4, h3, hn3, hs]
    ·skip
     have e : (idxOf l k p).getLast?.getD 0 = p := by
      unfold idxOf
      rw [opt_neg (show rlast l 3 k MM < 0 by omega), opt_neg (show rlast l 4 k MM < 0 by omega), opt_neg (show rlast l 5 k MM < 0 by omega), opt_neg (show rlast l 6 k MM < 0 by omega)]
      simp
     rw [e, state_eq h hp (minM _) (Int.le_refl _)]
     unfold stR
     simp only [rl_m h (by omega : (3 : Int) ≤ 6) (minM _), rl_m h (by omega : (3 : Int) ≤ 5) (minM _), rl_m h (by omega : (3 : Int) ≤ 4) (minM _), rl_m h (by omega : (3 : Int) ≤ 3) (minM _)]
     simp [h6, h5, h4, h3]

theorem ver_of (hA : Acc c l) {k p : Nat} (hp : (pro l)[k]? = some p) : 0 ≤ ver c.arts (nth l p).article (nth l p).at_ c.arts.length := by
 have g := good_of (hA p (pro_lt hp))
 have := g.prt (pro_kind (List.mem_of_getElem? hp))
 rcases ver_spec c.arts (nth l p).article (nth l p).at_ c.arts.length with ⟨h1, h2⟩ | ⟨jj, v, h1, _⟩
 ·have := this.2.1
  rw [h2] at this
  cases this
 ·omega

theorem pen_fits {p : Nat} (hp : (pro l).getD a.cse.toNat 0 = p) : penBad c (nth l p) a = !fitsR c l a := by
 unfold penBad fitsR
 unfold pro at hp
 rw [hp]
 cases a.upheld <;> simp [bne]

def Court (bs : List D) (F : Nat → Prop) (j : Nat) (c : Cod) (l : List Akt) : Prop := ∃ sa sf fs, Crt bs F j c l (qOf l) sa sf fs

def doN (c : Cod) (l : List Akt) (a : Akt) : Int := if refused c l a ≠ 0 then 0 else if a.kind = 1 then -1 else if a.kind = 2 then (pro l).length else a.cse
def doL (c : Cod) (l : List Akt) (a : Akt) : List Akt := if refused c l a = 0 then l ++ [a] else l

theorem Crt.caseAt {B : List D} {sa sf : D} {fs : List (Int × D)} (h : Crt B F j c l (qOf l) sa sf fs) (hA : Acc c l) {k p : Nat} (hp : (pro l)[k]? = some p) : ∃ s, CaseAt B c l fs k p s (idxOf l k p) := by
 obtain ⟨s, h1, h2⟩ := h.case k p _ (qOf_get hp)
 exact ⟨s, h1, h2, idx_lt hp, pro_lt hp, idx_ne, by have := idx_len (l := l) (k := k) (p := p); omega, ver_of hA hp⟩

theorem pubAt_b (hm : Mins l) (p : Int) : -1 ≤ pubAt l p ∧ pubAt l p ≤ 10000000 := by
 unfold pubAt
 split
 ·omega
 ·have := hm.nth (fi (isPub p) l).toNat
  omega

theorem mids (bs : List D) (F : Nat → Prop) (j : Nat) : Stp (mid bs j) F (mid bs j) F := Stp.refl _ _

theorem c26 (hA : Acc c l) (hc : CodOk c) (h : Court bs F j c l) (a : Akt) (ha : a.facts.length ≤ 1000000) :
  ∃ bs' F', FSpecWO Try.prog 26 (.st bs) [.loc j 0, a.d] (.ret (.tup [I (doN c l a), I (refused c l a)])) (.st bs') ∧ Stp bs F bs' F' ∧ Court bs' F' j c (doL c l a) := by
 obtain ⟨sa, sf, fs, h⟩ := h
 have hI := inv_of l hA
 have hlen := hI.len
 have hca := hc.arts
 have hL : l.length ≤ 1000000 := by omega
 have nope : ∀ e, refused c l a = e → e ≠ 0 → (∃ bs', FSpecWO Try.prog 26 (.st bs) [.loc j 0, a.d] (.ret (.tup [I 0, I e])) (.st bs') ∧ Stp bs F bs' F ∧ Crt bs' F j c l (qOf l) sa sf fs) → ∃ bs' F', FSpecWO Try.prog 26 (.st bs) [.loc j 0, a.d] (.ret (.tup [I (doN c l a), I (refused c l a)])) (.st bs') ∧ Stp bs F bs' F' ∧ Court bs' F' j c (doL c l a) := by
  rintro e he h0 ⟨bs', h1, h2, h3⟩
  unfold doN doL
  rw [he, if_pos h0, if_neg h0]
  exact ⟨bs', F, h1, h2, sa, sf, fs, h3⟩
 cases hbad : (!actOk c.cars a || early l a)
 rotate_left
 ·refine nope 2 ?_ (by omega) (c26arg h hL a ha hbad)
  unfold refused
  rw [if_pos]
  unfold early at hbad
  simp only [Bool.or_eq_true, Bool.not_eq_true', Bool.and_eq_true, decide_eq_true_eq] at hbad
  rcases hbad with hb | hb
  ·exact .inl hb
  ·exact .inr ⟨by omega, hb.2⟩
 have hbad' := hbad
 unfold early at hbad
 simp only [Bool.or_eq_false_iff, Bool.not_eq_false', Bool.and_eq_false_iff, decide_eq_false_iff_not] at hbad
 have hok := hbad.1
 have hnl : ¬ (actOk c.cars a = false ∨ 0 < l.length ∧ a.minute < (nth l (l.length - 1)).minute) := by
  rintro (hh | hh)
  ·rw [hok] at hh; cases hh
  ·rcases hbad.2 with h1 | h1 <;> omega
 have hR : refused c l a = if 2000 ≤ l.length then 4 else refused c l a := by
  split
  ·unfold refused; rw [if_neg hnl, if_pos (by omega)]
  ·rfl
 by_cases hm : 2000 ≤ l.length
 ·exact nope 4 (by rw [hR, if_pos hm]) (by omega) (c26long h hL a ha hbad' hm)
 have hm' : l.length < 2000 := by omega
 have hk := actOk_kind hok
 have hmin := actOk_minute hok
 have hmid := h.mid (j := j)
 have hpb := pubAt_b hI.mins a.paper
 have hql : (qOf l).length ≤ 1000000 := by rw [qOf_len]; have := prot_len l l.length; unfold pro; omega
 rcases hk with e | e | ⟨e, hcs⟩
 ·-- a paper
  have hg : D.mlook .int (I a.kind) (kents j) = some (some (0, .fn 64 [.loc j 0] [])) := by rw [e]; rfl
  have h64 := c64 hmid.acts hL a
  have hp : 0 ≤ pubAt l a.paper ↔ 0 ≤ fi (isPub a.paper) l := by
   unfold pubAt
   have := hI.mins.nth (fi (isPub a.paper) l).toNat
   split <;> omega
  have hr : refused c l a = if 0 ≤ fi (isPub a.paper) l then 6 else 0 := by unfold refused; rw [if_neg hnl, if_neg hm, if_pos e]
  by_cases h0 : 0 ≤ fi (isPub a.paper) l
  ·rw [if_pos (hp.2 h0)] at h64
   exact nope 6 (by rw [hr, if_pos h0]) (by omega) (c26pan h hL a ha hbad' hm' hg (by kernel_rfl) h64)
  ·rw [if_neg (fun hh => h0 (hp.1 hh))] at h64
   rw [if_neg h0] at hr
   have g := good_of hr
   obtain ⟨bs', F', sa', h1, h2, h3⟩ := c26pub h hL a ha hbad' hm' hg (by kernel_rfl) rfl ⟨h64, mids _ _ _, hmid⟩
   unfold doN doL
   rw [hr, if_neg (by omega), if_pos e, if_pos rfl]
   exact ⟨bs', F', h1, h2, sa', sf, fs, by rw [q_pub g e]; exact h3⟩
 ·-- a protest
  have hg : D.mlook .int (I a.kind) (kents j) = some (some (1, .fn 65 [.loc j 0] [])) := by rw [e]; rfl
  have hv : ver c.arts a.article a.at_ c.arts.length < 0 ↔ (verArt c.arts a.article a.at_ c.arts.length).isSome = false := by
   rcases ver_spec c.arts a.article a.at_ c.arts.length with ⟨h1, h2⟩ | ⟨jj, v, h1, _, h2⟩
   ·rw [h1, h2]; simp
   ·rw [h1, h2]; simp
  have hr : refused c l a = proR c l a := by
   unfold refused proR
   rw [if_neg hnl, if_neg hm, if_neg (by omega), if_pos e]
   have h2 := hI.mins.nth (fi (isPub a.paper) l).toNat
   unfold pubAt
   by_cases h0 : fi (isPub a.paper) l < 0
   ·rw [if_pos (.inl h0), if_pos h0, if_pos (.inl (by omega))]
   ·rw [if_neg h0]
    by_cases h1 : (verArt c.arts a.article a.at_ c.arts.length).isSome = false
    ·rw [if_pos (.inr h1), if_pos (.inr (hv.2 h1))]
    ·rw [if_neg (show ¬ (fi (isPub a.paper) l < 0 ∨ (verArt c.arts a.article a.at_ c.arts.length).isSome = false) from fun hh => hh.elim h0 h1), if_neg (show ¬ ((nth l (fi (isPub a.paper) l).toNat).minute < 0 ∨ ver c.arts a.article a.at_ c.arts.length < 0) from fun hh => hh.elim (fun h4 => by omega) fun h4 => h1 (hv.1 h4))]
  by_cases h0 : proR c l a = 0
  ·obtain ⟨C, F4, h1, h2, h3⟩ := c65y hmid (by omega) hL hql a hpb hmin h0
   have hrr := hr.trans h0
   have g := good_of hrr
   obtain ⟨bs', F', sa', fs', g1, g2, g3⟩ := c26upd h hL a ha hbad' hm' hg (by kernel_rfl) (k := (qOf l).length) (p := l.length) (idx := []) rfl (by rw [List.getElem?_append_right (Nat.le_refl _)]; simp) (by simp) ⟨h1, h2, h3⟩
   unfold doN doL
   rw [hrr, if_neg (by omega), if_neg (by omega), if_pos e, if_pos rfl]
   rw [qOf_len] at g1
   refine ⟨bs', F', g1, g2, sa', .sl (mid bs j).length 0 (fs.length + 1), fs', ?_⟩
   rw [q_pro hI g e]
   have : ((qOf l ++ [(l.length, [])]).set (qOf l).length (l.length, [] ++ [l.length])) = qOf l ++ [(l.length, [l.length])] := by
    rw [List.set_append_right _ _ (Nat.le_refl _)]; simp
   rw [← this]
   exact g3
  ·have h65 := c65n hmid (by omega) hL a hpb hmin h0
   exact nope _ hr h0 (c26pan h hL a ha hbad' hm' hg (by kernel_rfl) h65)
 ·-- an act of a case
  have hnk : ¬ a.kind = 1 ∧ ¬ a.kind = 2 := by omega
  by_cases hlen5 : ((prot l l.length).length : Int) ≤ a.cse
  ·have hr : refused c l a = 5 := by unfold refused; rw [if_neg hnl, if_neg hm, if_neg hnk.1, if_neg hnk.2, if_pos hlen5]
   have hfl : (fs.length : Int) ≤ a.cse := by rw [h.len, qOf_len]; exact hlen5
   rcases e with e | e | e | e
   ·exact nope 5 hr (by omega) (c26pan h hL a ha hbad' hm' (i := 2) (f := 66) (by rw [e]; rfl) (by kernel_rfl) (c66n hmid.acts hmid.files a hfl))
   ·exact nope 5 hr (by omega) (c26pan h hL a ha hbad' hm' (i := 3) (f := 67) (by rw [e]; rfl) (by kernel_rfl) (c67n hmid.acts hmid.files a hfl))
   ·exact nope 5 hr (by omega) (c26pan h hL a ha hbad' hm' (i := 4) (f := 68) (by rw [e]; rfl) (by kernel_rfl) (c68n hmid.acts hmid.files a hfl))
   ·exact nope 5 hr (by omega) (c26pan h hL a ha hbad' hm' (i := 5) (f := 69) (by rw [e]; rfl) (by kernel_rfl) (c69n hmid.acts hmid.files a hfl))
  obtain ⟨k, hck⟩ : ∃ k : Nat, a.cse = k := ⟨a.cse.toNat, by omega⟩
  obtain ⟨p, hp⟩ : ∃ p, (pro l)[k]? = some p := ⟨_, List.getElem?_eq_getElem (by unfold pro; omega)⟩
  obtain ⟨s, hF⟩ := hmid.caseAt hA hp
  have hgd : (pro l).getD a.cse.toNat 0 = p := by rw [hck]; simp [hp]
  have hlast := lastSt_eq hI hc.second.1 hp
  have hpen := pen_fits (c := c) hgd
  have hs := hI.shape k
  have s1 := hs.dx
  have s2 := hs.da
  have s3 := hs.aj
  have done : refused c l a = 0 → ∀ {f i : Nat}, D.mlook .int (I a.kind) (kents j) = some (some (i, .fn f [.loc j 0] [])) → callable Try.prog f = true → FSpecWO Try.prog f (.st (mid bs j)) [.loc j 0, a.d] (.ret (I a.cse)) (.st (mid bs j)) → ∃ bs' F', FSpecWO Try.prog 26 (.st bs) [.loc j 0, a.d] (.ret (.tup [I (doN c l a), I (refused c l a)])) (.st bs') ∧ Stp bs F bs' F' ∧ Court bs' F' j c (doL c l a) := by
   intro hr f i hg hcl hsp
   have g := good_of hr
   obtain ⟨bs', F', sa', fs', g1, g2, g3⟩ := c26upd h hL a ha hbad' hm' hg hcl hck (qOf_get hp) (by have := idx_len (l := l) (k := k) (p := p); omega) ⟨hsp, mids _ _ _, hmid⟩
   unfold doN doL
   rw [hr, if_neg (by omega), if_neg hnk.1, if_neg hnk.2, if_pos rfl]
   exact ⟨bs', F', g1, g2, sa', _, fs', by rw [q_upd hI g (by omega) hck hp]; exact g3⟩
  have hrr : ∀ {x : Int}, (let pr := nth l ((prot l l.length).getD a.cse.toNat 0)
    let x := rlast l 6 a.cse 10000000
    let d := rlast l 3 a.cse 10000000
    let ap := rlast l 4 a.cse 10000000
    let ju := rlast l 5 a.cse 10000000
    if a.kind = 3 then (if 0 ≤ x ∨ 0 ≤ d then 6 else if fitsR c l a = false then 7 else 0)
    else if a.kind = 4 then (if d < 0 ∨ 0 ≤ ap then 6 else if a.by_ ≠ pr.by_ ∧ a.by_ ≠ pr.against then 7 else if c.second < a.minute - (nth l d.toNat).minute then 8 else if a.paid ≠ c.price then 7 else 0)
    else if a.kind = 5 then (if ap < 0 ∨ 0 ≤ ju then 6 else if fitsR c l a = false then 7 else 0)
    else (if 0 ≤ x ∨ 0 ≤ d then 6 else if a.by_ ≠ pr.by_ then 7 else 0)) = x → refused c l a = x := by
   intro x hx
   unfold refused
   rw [if_neg hnl, if_neg hm, if_neg hnk.1, if_neg hnk.2, if_neg hlen5]
   exact hx
  rcases e with e | e | e | e
  ·have hg : D.mlook .int (I a.kind) (kents j) = some (some (2, .fn 66 [.loc j 0] [])) := by rw [e]; rfl
   have hsp := c66 hmid.acts (by omega) hI.mins hmid.files hF a hck
   rw [hpen] at hsp
   by_cases hx : 0 ≤ rlast l 6 k MM ∨ 0 ≤ rlast l 3 k MM
   ·have hl1 : lastSt c l (idxOf l k p) ≠ 1 := by rw [hlast]; repeat' split <;> omega
    rw [if_pos hl1] at hsp
    exact nope 6 (hrr (by simp only [e, hck]; rw [if_pos trivial, if_pos (by unfold MM at hx; exact hx)])) (by omega) (c26pan h hL a ha hbad' hm' hg (by kernel_rfl) hsp)
   ·have hl1 : ¬ lastSt c l (idxOf l k p) ≠ 1 := by rw [hlast]; repeat' split <;> omega
    rw [if_neg hl1] at hsp
    cases hfit : fitsR c l a
    ·rw [hfit, if_pos (show (!false) = true from rfl)] at hsp
     exact nope 7 (hrr (by simp only [e, hck]; rw [if_pos trivial, if_neg (by unfold MM at hx; exact hx), if_pos hfit])) (by omega) (c26pan h hL a ha hbad' hm' hg (by kernel_rfl) hsp)
    ·rw [hfit, if_neg (by decide)] at hsp
     exact done (hrr (by simp only [e, hck]; rw [if_pos trivial, if_neg (by unfold MM at hx; exact hx), if_neg (by rw [hfit]; decide)])) hg (by kernel_rfl) hsp
  ·have hg : D.mlook .int (I a.kind) (kents j) = some (some (3, .fn 67 [.loc j 0] [])) := by rw [e]; rfl
   have hsp := c67 hmid.acts hI.mins hmid.files hF a hck hmin
   have hr : refused c l a = appR c l p (idxOf l k p) a := by
    refine hrr ?_
    have hgd' : (prot l l.length).getD a.cse.toNat 0 = p := hgd
    simp only [hgd']
    simp only [e, hck]
    rw [if_neg (by omega), if_pos trivial]
    unfold appR
    by_cases hx : rlast l 3 k MM < 0 ∨ 0 ≤ rlast l 4 k MM
    ·have hl1 : lastSt c l (idxOf l k p) ≠ 3 := by rw [hlast]; repeat' split <;> omega
     rw [if_pos hl1, if_pos (by unfold MM at hx; exact hx)]
    ·have hl1 : ¬ lastSt c l (idxOf l k p) ≠ 3 := by rw [hlast]; repeat' split <;> omega
     have hle : (idxOf l k p).getLast?.getD 0 = (rlast l 3 k MM).toNat := by
      unfold idxOf
      rw [show opt (rlast l 3 k MM) = [(rlast l 3 k MM).toNat] by unfold opt; rw [if_pos (by omega)], opt_neg (show rlast l 6 k MM < 0 by omega), opt_neg (show rlast l 5 k MM < 0 by omega), opt_neg (show rlast l 4 k MM < 0 by omega)]
      simp
     rw [if_neg hl1, if_neg (by unfold MM at hx; exact hx), hle]
   rw [← hr] at hsp
   by_cases h0 : refused c l a = 0
   ·rw [if_neg (fun hh => hh h0)] at hsp
    exact done h0 hg (by kernel_rfl) hsp
   ·rw [if_pos h0] at hsp
    exact nope _ rfl h0 (c26pan h hL a ha hbad' hm' hg (by kernel_rfl) hsp)
  ·have hg : D.mlook .int (I a.kind) (kents j) = some (some (4, .fn 68 [.loc j 0] [])) := by rw [e]; rfl
   have hsp := c68 hmid.acts (by omega) hI.mins hmid.files hF a hck
   rw [hpen] at hsp
   by_cases hx : rlast l 4 k MM < 0 ∨ 0 ≤ rlast l 5 k MM
   ·have hl1 : lastSt c l (idxOf l k p) ≠ 4 := by rw [hlast]; repeat' split <;> omega
    rw [if_pos hl1] at hsp
    exact nope 6 (hrr (by simp only [e, hck]; rw [if_neg (by omega), if_neg (by omega), if_pos trivial, if_pos (by unfold MM at hx; exact hx)])) (by omega) (c26pan h hL a ha hbad' hm' hg (by kernel_rfl) hsp)
   ·have hl1 : ¬ lastSt c l (idxOf l k p) ≠ 4 := by rw [hlast]; repeat' split <;> omega
    rw [if_neg hl1] at hsp
    cases hfit : fitsR c l a
    ·rw [hfit, if_pos (show (!false) = true from rfl)] at hsp
     exact nope 7 (hrr (by simp only [e, hck]; rw [if_neg (by omega), if_neg (by omega), if_pos trivial, if_neg (by unfold MM at hx; exact hx), if_pos hfit])) (by omega) (c26pan h hL a ha hbad' hm' hg (by kernel_rfl) hsp)
    ·rw [hfit, if_neg (by decide)] at hsp
     exact done (hrr (by simp only [e, hck]; rw [if_neg (by omega), if_neg (by omega), if_pos trivial, if_neg (by unfold MM at hx; exact hx), if_neg (by rw [hfit]; decide)])) hg (by kernel_rfl) hsp
  ·have hg : D.mlook .int (I a.kind) (kents j) = some (some (5, .fn 69 [.loc j 0] [])) := by rw [e]; rfl
   have hsp := c69 hmid.acts hI.mins hmid.files hF a hck
   have hgd' : (prot l l.length).getD a.cse.toNat 0 = p := hgd
   by_cases hx : 0 ≤ rlast l 6 k MM ∨ 0 ≤ rlast l 3 k MM
   ·have hl1 : lastSt c l (idxOf l k p) ≠ 1 := by rw [hlast]; repeat' split <;> omega
    rw [if_pos hl1] at hsp
    exact nope 6 (hrr (by simp only [e, hck]; rw [if_neg (by omega), if_neg (by omega), if_neg (by omega), if_pos (by unfold MM at hx; exact hx)])) (by omega) (c26pan h hL a ha hbad' hm' hg (by kernel_rfl) hsp)
   ·have hl1 : ¬ lastSt c l (idxOf l k p) ≠ 1 := by rw [hlast]; repeat' split <;> omega
    rw [if_neg hl1] at hsp
    by_cases hb : a.by_ ≠ (nth l p).by_
    ·rw [if_pos hb] at hsp
     exact nope 7 (hrr (by simp only [hgd']; simp only [e, hck]; rw [if_neg (by omega), if_neg (by omega), if_neg (by omega), if_neg (by unfold MM at hx; exact hx), if_pos hb])) (by omega) (c26pan h hL a ha hbad' hm' hg (by kernel_rfl) hsp)
    ·rw [if_neg hb] at hsp
     exact done (hrr (by simp only [hgd']; simp only [e, hck]; rw [if_neg (by omega), if_neg (by omega), if_neg (by omega), if_neg (by unfold MM at hx; exact hx), if_neg hb])) hg (by kernel_rfl) hsp

end Go.Am.Ct
