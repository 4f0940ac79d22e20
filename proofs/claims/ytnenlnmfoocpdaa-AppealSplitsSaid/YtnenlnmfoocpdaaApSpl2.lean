/-
 Splitting: the program's split.
-/
import Derived.Test.YtnenlnmfoocpdaaApSpl1
import Derived.Test.YtnenlnmfoocpdaaAmSplP
set_option linter.unusedSimpArgs false
set_option linter.unusedVariables false
namespace Go.Am.Ct
open Go.Proofs Go.Am.Ap Go.Am.Srt
set_option maxRecDepth 100000
set_option maxHeartbeats 4000000

variable {bs : List D}

attribute [local irreducible] inR

theorem idx_is {X : List Int} {i : Nat} {v : Int} (h : X[i]? = some v) : D.idx (Is X) (I i) = some (I v) := by
 simp [D.idx, h]
theorem set_is {X : List Int} {i : Nat} (h : i < X.length) (y : Int) : D.set (Is X) (I i) 0 (I y) = some (Is (X.set i y)) := by
 simp [D.set, h, D.putAt, D.one]
theorem e_cidx {x y : E} {env : List D} {X : List Int} {i : Nat} {v : Int} (hv : X[i]? = some v) (hx : x.eval env = some (Is X)) (hy : y.eval env = some (I i)) : (E.cell 0 (.idx x y)).eval env = some (I v) := by
 simp only [E.eval, hx, hy, Option.bind_some, idx_is hv]
 rfl
theorem bin_quoI {a b : Int} (ha : 0 ≤ a ∧ a < 9000000000000000000) (hb : 0 < b) : D.bin .quo .int (I a) (I b) = some (I (a / b)) := by
 have h1 : a.tdiv b = a / b := Int.tdiv_eq_ediv_of_nonneg ha.1
 have h2 : 0 ≤ a / b := Int.ediv_nonneg ha.1 (by omega)
 have h3 : a / b ≤ a := Int.ediv_le_self b ha.1
 simp only [D.bin, cmpI, arI, if_true, if_neg (show ¬ b = 0 by omega), h1, wrap64 (show -9223372036854775808 ≤ a / b ∧ a / b < 9223372036854775808 by omega), Option.map_some]
theorem bin_remI {a b : Int} (ha : 0 ≤ a) (hb : 0 < b) : D.bin .rem .int (I a) (I b) = some (I (a % b)) := by
 have h1 : a.tmod b = a % b := Int.tmod_eq_emod_of_nonneg ha
 simp only [D.bin, cmpI, arI, if_true, if_neg (show ¬ b = 0 by omega), h1, Option.map_some]
theorem bin_mulI {a b : Int} (h : -9223372036854775808 ≤ a * b ∧ a * b < 9223372036854775808) : D.bin .mul .int (I a) (I b) = some (I (a * b)) := by
 simp only [D.bin, cmpI, arI, if_true, wrap64 h, Option.map_some]

theorem rep_is {n : Nat} (h : n ≤ 1000000) : D.rep 8 (I n) (.v (.int .i64 0)) = some (Is (List.replicate n 0)) := by
 unfold D.rep
 simp only
 rw [if_pos (by unfold maxLen; omega)]
 simp [List.map_replicate]

theorem shOk_iff (l : List Int) : shOk l = true ↔ ShOk l := by
 unfold shOk
 simp only [Bool.and_eq_true, List.all_eq_true, decide_eq_true_eq]
 constructor
 ·rintro ⟨h1, h2, h3⟩
  unfold inR at h1 h2
  simp at h1 h2
  exact ⟨by omega, by omega, h2, h3⟩
 ·intro h
  have h0 := h.n0
  have h1 := h.n1
  unfold inR
  refine ⟨by simp; omega, fun x hx => ?_, h.pos⟩
  have := h.bd x hx
  simp
  omega

def spl (a : Int) (sh : List Int) : List Int := addAt (fls a sh) ((fal (rss a sh)).take (lft a sh).toNat)

theorem fal_mem {xs : List Int} {x : Int} : x ∈ fal xs ↔ 0 ≤ x ∧ x < xs.length := by unfold fal; rw [so_mem, upI_mem]
theorem fal_len (xs : List Int) : (fal xs).length = xs.length := by unfold fal; rw [so_len, upI_len]
theorem fal_nodup (xs : List Int) : (fal xs).Nodup := (so_perm _).nodup_iff.2 (grow_nodup (upI_grow _))

theorem nodup_take {l : List Int} (h : l.Nodup) {k : Nat} {x : Int} (hx : l[k]? = some x) : x ∉ l.take k := by
 intro hm
 obtain ⟨i, hi, e⟩ := List.mem_iff_getElem.1 hm
 have hk := (List.getElem?_eq_some_iff.1 hx)
 obtain ⟨hk1, hk2⟩ := hk
 rw [List.length_take] at hi
 have hik : i < k := by omega
 rw [List.getElem_take] at e
 have := (List.pairwise_iff_getElem.1 h) i k (by omega) hk1 hik
 exact this (e.trans hk2.symm)

theorem step_fls {F X : List Int} {n i : Nat} (hF : F.length = n) (hi : i < n) {v : Int} (hv : F[i]? = some v) : (F.take i ++ List.replicate (n - i) 0).set i v = F.take (i + 1) ++ List.replicate (n - (i + 1)) 0 := by
 have hl : (F.take i).length = i := by rw [List.length_take]; omega
 rw [List.set_append_right _ _ (by omega), hl, Nat.sub_self, show n - i = (n - (i + 1)) + 1 by omega, List.replicate_succ, List.set_cons_zero, List.take_add_one, hv]
 simp

theorem c54 {a : Int} {sh : List Int} (ha : 0 ≤ a ∧ a ≤ 1000000000000) (h : ShOk sh) : FSpecW Try.prog 54 (.st bs) [I a, Is sh] (Is (spl a sh)) (.st (Row (bs ++ [.tup []]) bs.length 3 (fal (rss a sh)))) := by
 have hn0 := h.n0
 have hn1 := h.n1
 have hpos := h.pos
 have hsum := h.sum
 obtain ⟨hl0, hl1, _⟩ := lft_bd h a
 have k92 := c92 (bs := bs) (rss a sh) (by rw [rss_len]; omega) (by rw [rss_len]; omega)
 rw [rss_len] at k92
 obtain ⟨n, hn⟩ : ∃ n, n = sh.length := ⟨_, rfl⟩
 have hb : bs.length < (bs ++ [D.tup []]).length := by simp
 refine ku54.W rfl ?_
 unfold u54
 simp only [ups_cons, ups_nil, List.cons_append, List.nil_append]
 repeat' (first | ((with_reducible apply u_lenL); (· rfl); (· exact lenL_map); (· simp only [sbe]; rfl)) | (with_reducible refine u_join ?_))
 refine u_list sh (fun (s : Int) i => [I s, I i]) (fun r s => s + r.sum = sh.sum ∧ 0 ≤ s ∧ s + 1000000 * r.length ≤ 100000000) 0 rfl (fun _ _ => rfl) ⟨by simp, by omega, by omega⟩ (fun i x s hx hlt hG R hR => ?_) (fun s hG R => ?_)
 ·obtain ⟨g1, g2, g3⟩ := hG
  rw [List.sum_cons] at g1
  simp only [List.length_cons] at g3
  have hbx := h.bd x (List.mem_of_getElem? hx)
  have hli : decide ((i : Int) < (sh.length : Int)) = true := by simp; omega
  repeat' (first | ((with_reducible apply nrm); (· simp only [sbe]; rfl)) | ((with_reducible apply u_iteT); (· rfl); (· exact hli)) | ((with_reducible apply u_eaddr); (· rfl); (· rfl); (· exact eaddr_lst hx rfl); (· simp only [sbe]; rfl)) | ((with_reducible apply u_inc); (· rfl); (· omega); (· simp only [sbe]; rfl)) | ((with_reducible apply u_add); (· rfl); (· rfl); (· omega); (· simp only [sbe]; rfl)) | ((with_reducible apply u_ev); (· rfl); (· simp only [sbe]; rfl)) | (with_reducible refine u_join ?_) | ((with_reducible apply u_jump); (· rfl); (· rfl)) | (with_reducible refine at_jump ?_) | (with_reducible refine kj rfl ?_))
  exact hR _ ⟨by omega, by omega, by omega⟩
 ·obtain ⟨g1, g2, g3⟩ := hG
  have e : s = sh.sum := by simpa using g1
  subst e
  have hli : decide ((sh.length : Int) < (sh.length : Int)) = false := by simp
  have hrp := rep_is (n := sh.length) (by omega)
  repeat' (first | ((with_reducible apply nrm); (· simp only [sbe]; rfl)) | ((with_reducible apply u_iteF); (· rfl); (· exact hli)) | ((with_reducible apply u_rep); (· rfl); (· exact hrp); (· simp only [sbe]; rfl)) | ((with_reducible apply u_lenL); (· rfl); (· exact lenL_map); (· simp only [sbe]; rfl)) | ((with_reducible apply u_ev); (· rfl); (· simp only [sbe]; rfl)) | (with_reducible refine u_join ?_) | ((with_reducible apply u_jump); (· rfl); (· rfl)) | (with_reducible refine at_jump ?_) | (with_reducible refine over_jump (by decide) ?_) | (with_reducible refine kj rfl ?_))
  refine u_range (fun i => [I (a - ((fls a sh).take i).sum), I i, Is ((fls a sh).take i ++ List.replicate (sh.length - i) 0), Is ((rss a sh).take i ++ List.replicate (sh.length - i) 0)]) (fun _ => True) sh.length ?_ (fun _ => rfl) trivial (fun i hi _ R hR => ?_) (fun _ R => ?_)
  ·simp [evalAll, E.eval]
  ·have hr := hR trivial
   obtain ⟨x, hx⟩ : ∃ x, sh[i]? = some x := ⟨_, List.getElem?_eq_getElem hi⟩
   have hm := List.mem_of_getElem? hx
   have hmul := h.mul ha hm
   have hfl := fl_bd h ha hm
   have ht1 := fls_take h ha i
   have hfx : (fls a sh)[i]? = some (fl a sh.sum x) := by simp [fls, hx]
   have hrx : (rss a sh)[i]? = some (rs a sh.sum x) := by simp [rss, hx]
   have b1 := bin_mulI (a := a) (b := x) (by omega)
   have b2 := bin_quoI (a := a * x) (b := sh.sum) (by omega) hpos
   have b3 := bin_remI (a := a * x) (b := sh.sum) (by omega) hpos
   have lF : ((fls a sh).take i).length = i := by rw [List.length_take, fls_len]; omega
   have lR : ((rss a sh).take i).length = i := by rw [List.length_take, rss_len]; omega
   obtain ⟨F, hF⟩ : ∃ F, F = (fls a sh).take i ++ List.replicate (sh.length - i) 0 := ⟨_, rfl⟩
   obtain ⟨Q, hQ⟩ : ∃ Q, Q = (rss a sh).take i ++ List.replicate (sh.length - i) 0 := ⟨_, rfl⟩
   have sF := step_fls (X := []) (fls_len a sh) hi hfx
   have sQ := step_fls (X := []) (rss_len a sh) hi hrx
   have gF : F[i]? = some 0 := by rw [hF, List.getElem?_append_right (by omega), lF, Nat.sub_self, List.getElem?_replicate, if_pos (by omega)]
   have gQ : Q[i]? = some 0 := by rw [hQ, List.getElem?_append_right (by omega), lR, Nat.sub_self, List.getElem?_replicate, if_pos (by omega)]
   have lF2 : i < F.length := (List.getElem?_eq_some_iff.1 gF).1
   have lQ2 : i < Q.length := (List.getElem?_eq_some_iff.1 gQ).1
   rw [← sF, ← sQ, List.take_add_one, hfx] at hr
   rw [← hF, ← hQ] at hr ⊢
   simp only [Option.toList_some, List.sum_append, List.sum_cons, List.sum_nil] at hr
   have gF2 : (F.set i (a * x / sh.sum))[i]? = some (a * x / sh.sum) := by simp [lF2]
   have ef : fl a sh.sum x = a * x / sh.sum := rfl
   have er : rs a sh.sum x = a * x % sh.sum := rfl
   rw [ef] at hr hfl
   rw [er] at hr
   have hli : decide ((i : Int) < (sh.length : Int)) = true := by simp; omega
   repeat' (first | ((with_reducible apply nrm); (· simp only [sbe]; rfl)) | ((with_reducible apply u_iteT); (· rfl); (· exact hli)) | ((with_reducible apply u_eaddr); (· rfl); (· rfl); (· exact eaddr_lst hx rfl); (· simp only [sbe]; rfl)) | ((with_reducible apply u_idx); (· rfl); (· rfl); (· first | exact idx_is gF | exact idx_is gQ | exact idx_is gF2); (· simp only [sbe]; rfl)) | ((with_reducible apply u_set); (· rfl); (· rfl); (· rfl); (· first | exact set_is lF2 _ | exact set_is lQ2 _); (· simp only [sbe]; rfl)) | ((with_reducible apply u_bin); (· rfl); (· rfl); (· first | exact b1 | exact b2 | exact b3); (· simp only [sbe]; rfl)) | ((with_reducible apply u_inc); (· rfl); (· omega); (· simp only [sbe]; rfl)) | ((with_reducible apply u_sub); (· rfl); (· rfl); (· omega); (· simp only [sbe]; rfl)) | ((with_reducible apply u_ev); (· exact e_cidx gF2 rfl rfl); (· simp only [sbe]; rfl)) | ((with_reducible apply u_ev); (· rfl); (· simp only [sbe]; rfl)) | (with_reducible refine u_join ?_) | ((with_reducible apply u_jump); (· rfl); (· rfl)) | (with_reducible refine at_jump ?_) | (with_reducible refine kj rfl ?_))
   rw [show a - (((fls a sh).take i).sum + (a * x / sh.sum + 0)) = a - ((fls a sh).take i).sum - a * x / sh.sum by omega] at hr
   exact hr
  ·have e1 : (fls a sh).take sh.length = fls a sh := List.take_of_length_le (by rw [fls_len]; exact Nat.le_refl _)
   have e2 : (rss a sh).take sh.length = rss a sh := List.take_of_length_le (by rw [rss_len]; exact Nat.le_refl _)
   rw [e1, e2, Nat.sub_self, List.replicate_zero, List.append_nil (fls a sh), List.append_nil (rss a sh)]
   have el : a - (fls a sh).sum = lft a sh := rfl
   rw [el]
   obtain ⟨k, hk⟩ : ∃ k : Nat, lft a sh = k := ⟨(lft a sh).toNat, by omega⟩
   have hspl : spl a sh = addAt (fls a sh) ((fal (rss a sh)).take k) := by unfold spl; rw [hk]; rfl
   rw [hk] at hl0 hl1
   rw [hk, hspl]
   have hsub : D.sub 1 (.sl bs.length 0 sh.length) (I 0) (I k) = some (.sl bs.length 0 k) := by
    simp only [D.sub]
    rw [if_pos ⟨Int.le_refl _, hl0, Int.le_of_lt hl1, by decide, .inr trivial⟩]
    simp
   have hli : decide ((sh.length : Int) < (sh.length : Int)) = false := by simp
   repeat' (first | ((with_reducible apply nrm); (· simp only [sbe]; rfl)) | ((with_reducible apply u_iteF); (· rfl); (· exact hli)) | ((with_reducible apply u_subl); (· rfl); (· rfl); (· rfl); (· exact hsub); (· simp only [sbe]; rfl)) | ((with_reducible apply u_ev); (· rfl); (· simp only [sbe]; rfl)) | ((with_reducible apply u_wcall); (· rfl); (· rfl); (· exact k92); (· rfl); (· simp only [sbe]; rfl)) | (with_reducible refine u_join ?_) | ((with_reducible apply u_jump); (· rfl); (· rfl)) | (with_reducible refine at_jump ?_) | (with_reducible refine over_jump (by decide) ?_) | (with_reducible refine kj rfl ?_))
   refine u_range (fun i => [I i, Is (addAt (fls a sh) ((fal (rss a sh)).take i))]) (fun _ => True) k ?_ (fun _ => rfl) trivial (fun i hi _ R hR => ?_) (fun _ R => ?_)
   ·simp [evalAll, E.eval, addAt_nil]
   ·have hr := hR trivial
    have hiF : i < (fal (rss a sh)).length := by rw [fal_len, rss_len]; omega
    obtain ⟨j, hj⟩ : ∃ j, (fal (rss a sh))[i]? = some j := ⟨_, List.getElem?_eq_getElem hiF⟩
    have hjm := fal_mem.1 (List.mem_of_getElem? hj)
    rw [rss_len] at hjm
    obtain ⟨m, rfl⟩ : ∃ m : Nat, j = m := ⟨j.toNat, by omega⟩
    have hnm := nodup_take (fal_nodup (rss a sh)) hj
    obtain ⟨A, hA⟩ : ∃ A, A = addAt (fls a sh) ((fal (rss a sh)).take i) := ⟨_, rfl⟩
    have hAl : m < A.length := by rw [hA, addAt_len, fls_len]; omega
    obtain ⟨v, hv⟩ : ∃ v, A[m]? = some v := ⟨_, List.getElem?_eq_getElem hAl⟩
    have hsn := addAt_snoc (base := fls a sh) (l := (fal (rss a sh)).take i) (j := m) (v := v) (by rw [← hA]; exact hv) hnm
    have hvb : 0 ≤ v ∧ v ≤ 1000000000001 := by
     rw [hA, addAt_get] at hv
     cases hf : (fls a sh)[m]? with
     | none => rw [hf] at hv; cases hv
     | some y =>
      rw [hf, Option.map_some, Option.some.injEq] at hv
      obtain ⟨s, hs, rfl⟩ := List.mem_map.1 (List.mem_of_getElem? hf)
      have := fl_bd h ha hs
      rw [if_neg hnm] at hv
      omega
    rw [List.take_add_one, hj] at hr
    simp only [Option.toList_some] at hr
    rw [← hsn, ← hA] at hr
    rw [← hA]
    have ht : decide ((i : Int) < (k : Int)) = true := by simp; omega
    repeat' (first | ((with_reducible apply nrm); (· simp only [sbe]; rfl)) | ((with_reducible apply u_iteT); (· rfl); (· exact ht)) | ((with_reducible apply u_ld); (· rfl); (· rfl); (· exact row_ld hb hj); (· simp only [sbe]; rfl)) | ((with_reducible apply u_eaddr); (· rfl); (· rfl); (· exact eaddr_sl hi); (· simp only [sbe]; rfl)) | ((with_reducible apply u_idx); (· rfl); (· rfl); (· exact idx_is hv); (· simp only [sbe]; rfl)) | ((with_reducible apply u_set); (· rfl); (· rfl); (· rfl); (· exact set_is hAl _); (· simp only [sbe]; rfl)) | ((with_reducible apply u_inc); (· rfl); (· omega); (· simp only [sbe]; rfl)) | ((with_reducible apply u_add); (· rfl); (· rfl); (· omega); (· simp only [sbe]; rfl)) | ((with_reducible apply u_ev); (· exact e_cidx hv rfl rfl); (· simp only [sbe]; rfl)) | ((with_reducible apply u_ev); (· rfl); (· simp only [sbe]; rfl)) | (with_reducible refine u_join ?_) | ((with_reducible apply u_jump); (· rfl); (· rfl)) | (with_reducible refine at_jump ?_) | (with_reducible refine kj rfl ?_))
    exact hr
   ·have hf : decide ((k : Int) < (k : Int)) = false := by simp
    repeat' (first | ((with_reducible apply nrm); (· simp only [sbe]; rfl)) | ((with_reducible apply u_iteF); (· rfl); (· exact hf)) | ((with_reducible apply u_ev); (· rfl); (· simp only [sbe]; rfl)) | ((with_reducible apply u_jump); (· rfl); (· rfl)) | (with_reducible refine at_jump ?_) | (with_reducible refine over_jump (by decide) ?_) | (with_reducible refine kj rfl ?_) | (with_reducible exact u_ret rfl rfl))

def splOk (a : Int) (sh : List Int) : Bool := inR a 0 1000000000000 && shOk sh

theorem noids_ints (l : List Int) : noids (l.map I) = true := by
 induction l with
 | nil => rfl
 | cons a l ih => rw [List.map_cons]; simp [noids, D.noid, ih]

theorem c54l {a : Int} {sh : List Int} (ha : 0 ≤ a ∧ a ≤ 1000000000000) (h : ShOk sh) : FSpecR Try.prog 54 (.st bs) [I a, Is sh] (Is (spl a sh)) :=
 FSpecWO.localize (c54 (bs := []) ha h) (by simp [noids, D.noid, noids_ints]) (by simp [Out.noid, D.noid, noids_ints]) bs

theorem c17 (a : Int) (sh : List Int) (hL : sh.length ≤ 1000000) : FSpecR Try.prog 17 (.st bs) [I a, Is sh] (if splOk a sh = true then .tup [Is (spl a sh), I 0] else .tup [.lst [], I 2]) := by
 have k52 := c52 (bs := bs) a 0 1000000000000
 have k53 := c53 (bs := bs) sh hL
 refine ku17.R rfl rfl ?_
 unfold u17
 simp only [ups_cons, ups_nil, List.cons_append, List.nil_append]
 cases hok : splOk a sh
 ·have ht : (!inR a 0 1000000000000 || !shOk sh) = true := by
   unfold splOk at hok
   rw [Bool.and_eq_false_iff] at hok
   rcases hok with h | h <;> simp [h]
  repeat' (first | ((with_reducible apply nrm); (· simp only [sbe]; rfl)) | ((with_reducible apply u_iteT); (· rfl); (· exact ht)) | ((with_reducible apply u_ev); (· rfl); (· simp only [sbe]; rfl)) | ((with_reducible apply u_call); (· rfl); (· rfl); (· first | exact k52 | exact k53); (· rfl); (· simp only [sbe]; rfl)) | ((with_reducible apply u_or); (· rfl)) | (with_reducible exact u_ret rfl rfl) | ((with_reducible intro hz); (try simp only [sbs] at hz)))
 ·unfold splOk at hok
  rw [Bool.and_eq_true] at hok
  have hf : (!inR a 0 1000000000000 || !shOk sh) = false := by simp [hok.1, hok.2]
  have ha : 0 ≤ a ∧ a ≤ 1000000000000 := by
   have := hok.1
   unfold inR at this
   simpa using this
  have k54 := c54l (bs := bs) ha ((shOk_iff sh).1 hok.2)
  repeat' (first | ((with_reducible apply nrm); (· simp only [sbe]; rfl)) | ((with_reducible apply u_iteF); (· rfl); (· exact hf)) | ((with_reducible apply u_ev); (· rfl); (· simp only [sbe]; rfl)) | ((with_reducible apply u_call); (· rfl); (· rfl); (· first | exact k52 | exact k53 | exact k54); (· rfl); (· simp only [sbe]; rfl)) | ((with_reducible apply u_or); (· rfl)) | (with_reducible exact u_ret rfl rfl) | ((with_reducible intro hz); (try simp only [sbs] at hz)))

end Go.Am.Ct
