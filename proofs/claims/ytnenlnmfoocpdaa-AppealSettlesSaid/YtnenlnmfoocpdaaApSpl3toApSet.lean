/-
  Several texts, one behind the other.
-/
import Derived.Test.YtnenlnmfoocpdaaApSpl2
import Derived.Test.YtnenlnmfoocpdaaAmSplP2
import Derived.Test.YtnenlnmfoocpdaaApU4toApRef1
set_option linter.unusedSimpArgs false
set_option linter.unusedVariables false
/-
 Splitting: the specification's Split.
-/
namespace Go.Am.Ct
open Go.Proofs Go.Am.Ap Go.Am.Srt
set_option maxRecDepth 100000
set_option maxHeartbeats 4000000

variable {bs : List D}

attribute [local irreducible] inR

theorem getD_of {X : List Int} {i : Nat} {v : Int} (h : X[i]? = some v) : X.getD i 0 = v := by simp [h]

theorem fal_next {xs : List Int} (hp : ∀ x, x ∈ xs → 0 ≤ x) {t m : Nat} (hm : (fal xs)[t]? = some (m : Int)) {j : Nat} (hj : j < xs.length) (hne : j ≠ m) :
  (cutAt xs ((fal xs).take t)).getD j 0 < (cutAt xs ((fal xs).take t)).getD m 0 ∨ ((cutAt xs ((fal xs).take t)).getD j 0 = (cutAt xs ((fal xs).take t)).getD m 0 ∧ m < j) := by
 have hml := fal_mem.1 (List.mem_of_getElem? hm)
 have hml' : m < xs.length := by omega
 have hnm := nodup_take (fal_nodup xs) hm
 have em : (cutAt xs ((fal xs).take t)).getD m 0 = xs[m] := by
  refine getD_of ?_
  rw [cutAt_get, List.getElem?_eq_getElem hml', Option.map_some, if_neg hnm]
 have hxm := hp xs[m] (List.getElem_mem _)
 rw [em]
 by_cases hjt : (j : Int) ∈ (fal xs).take t
 ·have ej : (cutAt xs ((fal xs).take t)).getD j 0 = -1 := by
   refine getD_of ?_
   rw [cutAt_get, List.getElem?_eq_getElem hj, Option.map_some, if_pos hjt]
  rw [ej]
  exact .inl (by omega)
 ·have ej : (cutAt xs ((fal xs).take t)).getD j 0 = xs[j] := by
   refine getD_of ?_
   rw [cutAt_get, List.getElem?_eq_getElem hj, Option.map_some, if_neg hjt]
  rw [ej]
  have hjF : (j : Int) ∈ fal xs := fal_mem.2 (by omega)
  obtain ⟨p, hp1, hp2⟩ := List.mem_iff_getElem.1 hjF
  obtain ⟨ht1, ht2⟩ := List.getElem?_eq_some_iff.1 hm
  have hpt : t < p := by
   rcases Nat.lt_trichotomy p t with h | h | h
   ·exfalso
    apply hjt
    rw [← hp2]
    exact List.mem_iff_getElem.2 ⟨p, by rw [List.length_take]; omega, by rw [List.getElem_take]⟩
   ·exfalso
    subst h
    rw [hp2] at ht2
    omega
   ·exact h
  have hs : (fal xs).Pairwise (lt (cmpX xs)) := so_sorted (ordX xs) (fun x hx => by have := upI_mem.1 hx; exact this) (grow_nodup (upI_grow _))
  have hlt := (List.pairwise_iff_getElem.1 hs) t p ht1 hp1 hpt
  rw [ht2, hp2] at hlt
  unfold lt cmpX cmpD at hlt
  have a1 : xs.getD j 0 = xs[j] := getD_of (List.getElem?_eq_getElem hj)
  have a2 : xs.getD m 0 = xs[m] := getD_of (List.getElem?_eq_getElem hml')
  simp only [Int.toNat_natCast, a1, a2] at hlt
  by_cases h1 : xs[j] < xs[m]
  ·exact .inl h1
  ·rw [if_neg h1] at hlt
   by_cases h2 : xs[m] < xs[j]
   ·rw [if_pos h2] at hlt
    omega
   ·exact .inr ⟨by omega, by rw [if_neg h2] at hlt; omega⟩

theorem fal_found {xs : List Int} (hp : ∀ x, x ∈ xs → 0 ≤ x) {t m : Nat} (hm : (fal xs)[t]? = some (m : Int)) {at_ : Nat} (ha : at_ < xs.length) (h1 : ∀ j, j < xs.length → (cutAt xs ((fal xs).take t)).getD j 0 ≤ (cutAt xs ((fal xs).take t)).getD at_ 0) (h2 : ∀ j, j < at_ → (cutAt xs ((fal xs).take t)).getD j 0 < (cutAt xs ((fal xs).take t)).getD at_ 0) : at_ = m := by
 have hml := fal_mem.1 (List.mem_of_getElem? hm)
 by_cases hne : at_ = m
 ·exact hne
 ·exfalso
  have k1 := h1 m (by omega)
  rcases fal_next hp hm ha hne with h | ⟨h, hlt⟩
  ·omega
  ·have := h2 m hlt
   omega

theorem c18 (l : List Int) (hL : l.length ≤ 1000000) : FSpecR Try.prog 18 (.st bs) [Is l] (B (shOk l)) := by
 refine ku18.R rfl rfl ?_
 unfold u18
 simp only [ups_cons, ups_nil, List.cons_append, List.nil_append]
 cases hall : l.all fun x => inR x 0 1000000
 ·have hno : shOk l = false := by unfold shOk; rw [hall]; simp
  rw [hno]
  repeat' ((with_reducible refine u_join ?_))
  refine u_list l (fun (s : Int) i => [I s, I i]) (fun r s => 0 ≤ s ∧ s + 1000000 * r.length ≤ 1000000 * l.length ∧ (r.all fun x => inR x 0 1000000) = false) 0 rfl (fun _ _ => rfl) ⟨by omega, by omega, hall⟩ (fun i x s hx hlt hG R hR => ?_) (fun s hG R => ?_)
  ·obtain ⟨g1, g2, g3⟩ := hG
   simp only [List.length_cons] at g2
   rw [List.all_cons] at g3
   have k55 := c55 (bs := bs) x 0 1000000
   have hli : decide ((i : Int) < (l.length : Int)) = true := by simp; omega
   cases hix : inR x 0 1000000
   ·rw [hix] at k55
    repeat' (first | ((with_reducible apply nrm); (· simp only [sbe]; rfl)) | ((with_reducible apply u_iteT); (· rfl); (· first | exact hli | exact rfl)) | ((with_reducible apply u_eaddr); (· rfl); (· rfl); (· exact eaddr_lst hx rfl); (· simp only [sbe]; rfl)) | ((with_reducible apply u_lenL); (· rfl); (· exact lenL_map); (· simp only [sbe]; rfl)) | ((with_reducible apply u_ev); (· rfl); (· simp only [sbe]; rfl)) | ((with_reducible apply u_call); (· rfl); (· rfl); (· exact k55); (· rfl); (· simp only [sbe]; rfl)) | (with_reducible refine u_join ?_) | ((with_reducible apply u_ret); (· rfl); first | exact rfl | (refine retB ?_) | (refine retI ?_) | (refine retD ?_)))
   ·rw [hix] at k55 g3
    have hb : 0 ≤ x ∧ x ≤ 1000000 := by unfold inR at hix; simpa using hix
    repeat' (first | ((with_reducible apply nrm); (· simp only [sbe]; rfl)) | ((with_reducible apply u_iteT); (· rfl); (· exact hli)) | ((with_reducible apply u_iteF); (· rfl); (· exact rfl)) | ((with_reducible apply u_eaddr); (· rfl); (· rfl); (· exact eaddr_lst hx rfl); (· simp only [sbe]; rfl)) | ((with_reducible apply u_lenL); (· rfl); (· exact lenL_map); (· simp only [sbe]; rfl)) | ((with_reducible apply u_inc); (· rfl); (· omega); (· simp only [sbe]; rfl)) | ((with_reducible apply u_add); (· rfl); (· rfl); (· omega); (· simp only [sbe]; rfl)) | ((with_reducible apply u_ev); (· rfl); (· simp only [sbe]; rfl)) | ((with_reducible apply u_call); (· rfl); (· rfl); (· exact k55); (· rfl); (· simp only [sbe]; rfl)) | (with_reducible refine u_join ?_) | ((with_reducible apply u_jump); (· rfl); (· rfl)) | (with_reducible refine at_jump ?_) | (with_reducible refine kj rfl ?_))
    exact hR _ ⟨by omega, by omega, by simpa using g3⟩
  ·obtain ⟨g1, g2, g3⟩ := hG
   simp at g3
 ·repeat' ((with_reducible refine u_join ?_))
  have hbd : ∀ x, x ∈ l → 0 ≤ x ∧ x ≤ 1000000 := fun x hx => by
   have := List.all_eq_true.1 hall x hx
   unfold inR at this
   simpa using this
  refine u_list l (fun (s : Int) i => [I s, I i]) (fun r s => s + r.sum = l.sum ∧ 0 ≤ s ∧ s + 1000000 * r.length ≤ 1000000 * l.length) 0 rfl (fun _ _ => rfl) ⟨by simp, by omega, by omega⟩ (fun i x s hx hlt hG R hR => ?_) (fun s hG R => ?_)
  ·obtain ⟨g1, g2, g3⟩ := hG
   rw [List.sum_cons] at g1
   simp only [List.length_cons] at g3
   have hb := hbd x (List.mem_of_getElem? hx)
   have k55 := c55 (bs := bs) x 0 1000000
   have hix : inR x 0 1000000 = true := by unfold inR; simpa using hb
   rw [hix] at k55
   have hli : decide ((i : Int) < (l.length : Int)) = true := by simp; omega
   repeat' (first | ((with_reducible apply nrm); (· simp only [sbe]; rfl)) | ((with_reducible apply u_iteT); (· rfl); (· exact hli)) | ((with_reducible apply u_iteF); (· rfl); (· exact rfl)) | ((with_reducible apply u_eaddr); (· rfl); (· rfl); (· exact eaddr_lst hx rfl); (· simp only [sbe]; rfl)) | ((with_reducible apply u_lenL); (· rfl); (· exact lenL_map); (· simp only [sbe]; rfl)) | ((with_reducible apply u_inc); (· rfl); (· omega); (· simp only [sbe]; rfl)) | ((with_reducible apply u_add); (· rfl); (· rfl); (· omega); (· simp only [sbe]; rfl)) | ((with_reducible apply u_ev); (· rfl); (· simp only [sbe]; rfl)) | ((with_reducible apply u_call); (· rfl); (· rfl); (· exact k55); (· rfl); (· simp only [sbe]; rfl)) | (with_reducible refine u_join ?_) | ((with_reducible apply u_jump); (· rfl); (· rfl)) | (with_reducible refine at_jump ?_) | (with_reducible refine kj rfl ?_))
   exact hR _ ⟨by omega, by omega, by omega⟩
  ·obtain ⟨g1, g2, g3⟩ := hG
   have e : s = l.sum := by simpa using g1
   subst e
   have k55 := c55 (bs := bs) l.length 1 100
   have hli : decide ((l.length : Int) < (l.length : Int)) = false := by simp
   repeat' (first | ((with_reducible apply nrm); (· simp only [sbe]; rfl)) | ((with_reducible apply u_iteF); (· rfl); (· exact hli)) | ((with_reducible apply u_lenL); (· rfl); (· exact lenL_map); (· simp only [sbe]; rfl)) | ((with_reducible apply u_ev); (· rfl); (· simp only [sbe]; rfl)) | ((with_reducible apply u_call); (· rfl); (· rfl); (· exact k55); (· rfl); (· simp only [sbe]; rfl)) | ((with_reducible apply u_and); (· rfl)) | ((with_reducible apply u_jump); (· rfl); (· rfl)) | (with_reducible refine at_jump ?_) | (with_reducible refine over_jump (by decide) ?_) | (with_reducible refine kj rfl ?_) | (with_reducible exact u_ret rfl rfl) | ((with_reducible apply u_ret); (· rfl); first | exact rfl | (refine retB ?_) | (refine retI ?_) | (refine retD ?_)) | ((with_reducible intro hz); (try simp only [sbs] at hz)))
   unfold shOk
   rw [hall]
   simp

theorem c20 {a : Int} {sh : List Int} (ha : 0 ≤ a ∧ a ≤ 1000000000000) (h : ShOk sh) : FSpecR Try.prog 20 (.st bs) [I a, Is sh] (Is (spl a sh)) := by
 have hn0 := h.n0
 have hn1 := h.n1
 have hpos := h.pos
 have hsum := h.sum
 obtain ⟨hl0, hl1, _⟩ := lft_bd h a
 refine ku20.R rfl rfl ?_
 unfold u20
 simp only [ups_cons, ups_nil, List.cons_append, List.nil_append]
 repeat' ((with_reducible refine u_join ?_))
 refine u_list sh (fun (s : Int) i => [I s, I i]) (fun r s => s + r.sum = sh.sum ∧ 0 ≤ s ∧ s + 1000000 * r.length ≤ 100000000) 0 rfl (fun _ _ => rfl) ⟨by simp, by omega, by omega⟩ (fun i x s hx hlt hG R hR => ?_) (fun s hG R => ?_)
 ·obtain ⟨g1, g2, g3⟩ := hG
  rw [List.sum_cons] at g1
  simp only [List.length_cons] at g3
  have hbx := h.bd x (List.mem_of_getElem? hx)
  have hli : decide ((i : Int) < (sh.length : Int)) = true := by simp; omega
  repeat' (first | ((with_reducible apply nrm); (· simp only [sbe]; rfl)) | ((with_reducible apply u_iteT); (· rfl); (· exact hli)) | ((with_reducible apply u_eaddr); (· rfl); (· rfl); (· exact eaddr_lst hx rfl); (· simp only [sbe]; rfl)) | ((with_reducible apply u_lenL); (· rfl); (· exact lenL_map); (· simp only [sbe]; rfl)) | ((with_reducible apply u_inc); (· rfl); (· omega); (· simp only [sbe]; rfl)) | ((with_reducible apply u_add); (· rfl); (· rfl); (· omega); (· simp only [sbe]; rfl)) | ((with_reducible apply u_ev); (· rfl); (· simp only [sbe]; rfl)) | (with_reducible refine u_join ?_) | ((with_reducible apply u_jump); (· rfl); (· rfl)) | (with_reducible refine at_jump ?_) | (with_reducible refine kj rfl ?_))
  exact hR _ ⟨by omega, by omega, by omega⟩
 ·obtain ⟨g1, g2, g3⟩ := hG
  have e : s = sh.sum := by simpa using g1
  subst e
  have hli : decide ((sh.length : Int) < (sh.length : Int)) = false := by simp
  have hrp := rep_is (n := sh.length) (by omega)
  repeat' (first | ((with_reducible apply nrm); (· simp only [sbe]; rfl)) | ((with_reducible apply u_iteF); (· rfl); (· exact hli)) | ((with_reducible apply u_rep); (· rfl); (· exact hrp); (· simp only [sbe]; rfl)) | ((with_reducible apply u_lenL); (· rfl); (· exact lenL_map); (· simp only [sbe]; rfl)) | ((with_reducible apply u_ev); (· rfl); (· simp only [sbe]; rfl)) | (with_reducible refine u_join ?_) | ((with_reducible apply u_jump); (· rfl); (· rfl)) | (with_reducible refine at_jump ?_) | (with_reducible refine over_jump (by decide) ?_) | (with_reducible refine kj rfl ?_))
  refine u_range (fun i => [I (a - ((fls a sh).take i).sum), I i, Is ((fls a sh).take i ++ List.replicate (sh.length - i) 0), Is ((rss a sh).take i ++ List.replicate (sh.length - i) 0)]) (fun _ => True) sh.length ?_ (fun _ => rfl) trivial (fun i hi _ R hR => ?_) (fun _ R => ?_)
  ·simp [evalAll, E.eval]
  ·have hr := hR trivial
   obtain ⟨x, hx⟩ : ∃ x, sh[i]? = some x := ⟨_, List.getElem?_eq_getElem hi⟩
   have hm := List.mem_of_getElem? hx
   have hbx := h.bd x hm
   have hfl := fl_bd h ha hm
   have halt := fl_alt hpos a x
   have ht1 := fls_take h ha i
   have hfx : (fls a sh)[i]? = some (fl a sh.sum x) := by simp [fls, hx]
   have hrx : (rss a sh)[i]? = some (rs a sh.sum x) := by simp [rss, hx]
   have q0 : 0 ≤ a / sh.sum := Int.ediv_nonneg ha.1 (by omega)
   have q1 : a / sh.sum ≤ a := Int.ediv_le_self _ ha.1
   have r0 : 0 ≤ a % sh.sum := Int.emod_nonneg _ (by omega)
   have r1 : a % sh.sum < sh.sum := Int.emod_lt_of_pos _ hpos
   have m0 : 0 ≤ a / sh.sum * x := Int.mul_nonneg q0 hbx.1
   have m1 : a % sh.sum * x ≤ 100000000 * 1000000 := Int.mul_le_mul (by omega) hbx.2 hbx.1 (by omega)
   have m2 : 0 ≤ a % sh.sum * x := Int.mul_nonneg r0 hbx.1
   have m3 : 0 ≤ a % sh.sum * x / sh.sum := Int.ediv_nonneg m2 (by omega)
   have b1 := bin_quoI (a := a) (b := sh.sum) (by omega) hpos
   have b2 := bin_mulI (a := a / sh.sum) (b := x) (by omega)
   have b3 := bin_remI (a := a) (b := sh.sum) (by omega) hpos
   have b4 := bin_mulI (a := a % sh.sum) (b := x) (by omega)
   have b5 := bin_quoI (a := a % sh.sum * x) (b := sh.sum) (by omega) hpos
   have b6 := bin_remI (a := a % sh.sum * x) (b := sh.sum) (by omega) hpos
   have lF : ((fls a sh).take i).length = i := by rw [List.length_take, fls_len]; omega
   have lR : ((rss a sh).take i).length = i := by rw [List.length_take, rss_len]; omega
   obtain ⟨F, hF⟩ : ∃ F, F = (fls a sh).take i ++ List.replicate (sh.length - i) 0 := ⟨_, rfl⟩
   obtain ⟨Q, hQ⟩ : ∃ Q, Q = (rss a sh).take i ++ List.replicate (sh.length - i) 0 := ⟨_, rfl⟩
   have sF := step_fls (X := []) (fls_len a sh) hi hfx
   have sQ := step_fls (X := []) (rss_len a sh) hi hrx
   have gF : F[i]? = some 0 := by rw [hF, List.getElem?_append_right (by omega), lF, Nat.sub_self, List.getElem?_replicate, if_pos (by omega)]
   have gQ : Q[i]? = some 0 := by rw [hQ, List.getElem?_append_right (by omega), lR, Nat.sub_self, List.getElem?_replicate, if_pos (by omega)]
   have lF2 : i < F.length := (List.getElem?_eq_some_iff.1 gF).1
   have lQ2 : i < Q.length := (List.getElem?_eq_some_iff.1 gQ).1
   rw [← sF, ← sQ, List.take_add_one, hfx] at hr
   rw [← hF, ← hQ] at hr ⊢
   simp only [Option.toList_some, List.sum_append, List.sum_cons, List.sum_nil] at hr
   rw [← halt.1, ← halt.2] at hr
   rw [← halt.1] at hfl
   have gF2 : (F.set i (a / sh.sum * x + a % sh.sum * x / sh.sum))[i]? = some (a / sh.sum * x + a % sh.sum * x / sh.sum) := by simp [lF2]
   have hli : decide ((i : Int) < (sh.length : Int)) = true := by simp; omega
   repeat' (first | ((with_reducible apply nrm); (· simp only [sbe]; rfl)) | ((with_reducible apply u_iteT); (· rfl); (· exact hli)) | ((with_reducible apply u_eaddr); (· rfl); (· rfl); (· exact eaddr_lst hx rfl); (· simp only [sbe]; rfl)) | ((with_reducible apply u_idx); (· rfl); (· rfl); (· first | exact idx_is gF | exact idx_is gQ | exact idx_is gF2); (· simp only [sbe]; rfl)) | ((with_reducible apply u_set); (· rfl); (· rfl); (· rfl); (· first | exact set_is lF2 _ | exact set_is lQ2 _); (· simp only [sbe]; rfl)) | ((with_reducible apply u_bin); (· rfl); (· rfl); (· first | exact b1 | exact b2 | exact b3 | exact b4 | exact b5 | exact b6); (· simp only [sbe]; rfl)) | ((with_reducible apply u_lenL); (· rfl); (· exact lenL_map); (· simp only [sbe]; rfl)) | ((with_reducible apply u_inc); (· rfl); (· omega); (· simp only [sbe]; rfl)) | ((with_reducible apply u_add); (· rfl); (· rfl); (· omega); (· simp only [sbe]; rfl)) | ((with_reducible apply u_sub); (· rfl); (· rfl); (· omega); (· simp only [sbe]; rfl)) | ((with_reducible apply u_ev); (· exact e_cidx gF2 rfl rfl); (· simp only [sbe]; rfl)) | ((with_reducible apply u_ev); (· rfl); (· simp only [sbe]; rfl)) | (with_reducible refine u_join ?_) | ((with_reducible apply u_jump); (· rfl); (· rfl)) | (with_reducible refine at_jump ?_) | (with_reducible refine kj rfl ?_))
   rw [show a - (((fls a sh).take i).sum + (a / sh.sum * x + a % sh.sum * x / sh.sum + 0)) = a - ((fls a sh).take i).sum - (a / sh.sum * x + a % sh.sum * x / sh.sum) by omega] at hr
   exact hr
  ·have e1 : (fls a sh).take sh.length = fls a sh := List.take_of_length_le (by rw [fls_len]; exact Nat.le_refl _)
   have e2 : (rss a sh).take sh.length = rss a sh := List.take_of_length_le (by rw [rss_len]; exact Nat.le_refl _)
   rw [e1, e2, Nat.sub_self, List.replicate_zero, List.append_nil (fls a sh), List.append_nil (rss a sh)]
   have el : a - (fls a sh).sum = lft a sh := rfl
   rw [el]
   obtain ⟨k, hk⟩ : ∃ k : Nat, lft a sh = k := ⟨(lft a sh).toNat, by clear el; omega⟩
   have hspl : spl a sh = addAt (fls a sh) ((fal (rss a sh)).take k) := by unfold spl; rw [hk]; rfl
   rw [hk] at hl0 hl1
   rw [hk, hspl]
   have hli : decide ((sh.length : Int) < (sh.length : Int)) = false := by simp
   have hrp : ∀ x, x ∈ rss a sh → 0 ≤ x := fun x hx => by
    obtain ⟨s, _, rfl⟩ := List.mem_map.1 hx
    exact (rs_bd h a s).1
   repeat' (first | ((with_reducible apply nrm); (· simp only [sbe]; rfl)) | ((with_reducible apply u_iteF); (· rfl); (· exact hli)) | ((with_reducible apply u_lenL); (· rfl); (· exact lenL_map); (· simp only [sbe]; rfl)) | ((with_reducible apply u_ev); (· rfl); (· simp only [sbe]; rfl)) | (with_reducible refine u_join ?_) | ((with_reducible apply u_jump); (· rfl); (· rfl)) | (with_reducible refine at_jump ?_) | (with_reducible refine over_jump (by decide) ?_) | (with_reducible refine kj rfl ?_))
   refine u_range (fun i => [I ((k - i : Nat) : Int), Is (addAt (fls a sh) ((fal (rss a sh)).take i)), Is (cutAt (rss a sh) ((fal (rss a sh)).take i))]) (fun _ => True) k ?_ (fun _ => rfl) trivial (fun i hi _ R hR => ?_) (fun _ R => ?_)
   ·simp [evalAll, E.eval, addAt_nil, cutAt_nil]
   ·have hr := hR trivial
    have hiF : i < (fal (rss a sh)).length := by rw [fal_len, rss_len]; omega
    obtain ⟨j, hj⟩ : ∃ j, (fal (rss a sh))[i]? = some j := ⟨_, List.getElem?_eq_getElem hiF⟩
    have hjm := fal_mem.1 (List.mem_of_getElem? hj)
    rw [rss_len] at hjm
    obtain ⟨m, rfl⟩ : ∃ m : Nat, j = m := ⟨j.toNat, by omega⟩
    have hnm := nodup_take (fal_nodup (rss a sh)) hj
    have hfound := fun (at_ : Nat) => fal_found (at_ := at_) hrp hj
    obtain ⟨A, hA⟩ : ∃ A, A = addAt (fls a sh) ((fal (rss a sh)).take i) := ⟨_, rfl⟩
    obtain ⟨C, hC⟩ : ∃ C, C = cutAt (rss a sh) ((fal (rss a sh)).take i) := ⟨_, rfl⟩
    have hAl : m < A.length := by rw [hA, addAt_len, fls_len]; omega
    have hCl : C.length = sh.length := by rw [hC, cutAt_len, rss_len]
    obtain ⟨v, hv⟩ : ∃ v, A[m]? = some v := ⟨_, List.getElem?_eq_getElem hAl⟩
    have hsn := addAt_snoc (base := fls a sh) (l := (fal (rss a sh)).take i) (j := m) (v := v) (by rw [← hA]; exact hv) hnm
    have hcn := cutAt_snoc (base := rss a sh) (l := (fal (rss a sh)).take i) (j := m) (by rw [rss_len]; omega)
    have hvb : 0 ≤ v ∧ v ≤ 1000000000001 := by
     rw [hA, addAt_get] at hv
     cases hf : (fls a sh)[m]? with
     | none => rw [hf] at hv; cases hv
     | some y =>
      rw [hf, Option.map_some, Option.some.injEq] at hv
      obtain ⟨s, hs, rfl⟩ := List.mem_map.1 (List.mem_of_getElem? hf)
      have := fl_bd h ha hs
      rw [if_neg hnm] at hv
      omega
    rw [List.take_add_one, hj] at hr
    simp only [Option.toList_some] at hr
    rw [← hsn, ← hcn, ← hA, ← hC] at hr
    rw [← hA, ← hC]
    rw [← hC, rss_len] at hfound
    have ht : decide (((k - i : Nat) : Int) > 0) = true := by simp; omega
    repeat' (first | ((with_reducible apply nrm); (· simp only [sbe]; rfl)) | ((with_reducible apply u_iteT); (· rfl); (· exact ht)) | ((with_reducible apply u_ev); (· rfl); (· simp only [sbe]; rfl)) | (with_reducible refine u_join ?_))
    refine loop_exitK (fun ds => ∃ d1 d2 d3 d4 : D, ds = [I m, d1, d2, d3, d4]) ?_ ?_
    ·refine u_loop (fun q ds => ∃ p i : Nat, ds = [I p, I i] ∧ p < i ∧ i ≤ sh.length ∧ (∀ j, j < i → C.getD j 0 ≤ C.getD p 0) ∧ (∀ j, j < p → C.getD j 0 < C.getD p 0) ∧ q = sh.length - i) rfl (sh.length - 1) ⟨0, 1, rfl, by omega, by omega, fun j hj => by rw [show j = 0 by omega]; exact Int.le_refl _, fun j hj => absurd hj (Nat.not_lt_zero _), rfl⟩ ?_
     rintro q _ ⟨p, z, rfl, hpz, hz, i1, i2, rfl⟩
     refine ⟨rfl, fun R2 hR2 => ?_⟩
     have gp : C[p]? = some (C.getD p 0) := by simp [show p < C.length by omega]
     by_cases hzn : z < sh.length
     ·have gz : C[z]? = some (C.getD z 0) := by simp [show z < C.length by omega]
      have ht2 : decide ((z : Int) < (sh.length : Int)) = true := by simp; omega
      repeat' (first | ((with_reducible apply nrm); (· simp only [sbe]; rfl)) | ((with_reducible apply u_iteT); (· rfl); (· exact ht2)) | ((with_reducible apply u_idx); (· rfl); (· rfl); (· first | exact idx_is gp | exact idx_is gz); (· simp only [sbe]; rfl)) | ((with_reducible apply u_lenL); (· rfl); (· exact lenL_map); (· simp only [sbe]; rfl)) | ((with_reducible apply u_inc); (· rfl); (· omega); (· simp only [sbe]; rfl)) | ((with_reducible apply u_ev); (· first | exact e_cidx gp rfl rfl | exact e_cidx gz rfl rfl); (· simp only [sbe]; rfl)) | ((with_reducible apply u_ev); (· rfl); (· simp only [sbe]; rfl)) | (with_reducible refine u_join ?_) | ((with_reducible apply u_jump); (· rfl); (· rfl)) | (with_reducible refine at_jump ?_) | (with_reducible refine kj rfl ?_) | ((with_reducible apply u_phiS); (· rfl); all_goals (intro hz; (try simp only [sbs] at hz); first | (exact absurd hz (by decide)) | (exfalso; omega) | (refine ⟨_, rfl, ?_⟩))))
      ·refine hR2 (sh.length - (z + 1)) _ (by omega) ⟨z, z + 1, rfl, by omega, by omega, fun j hj => ?_, fun j hj => ?_, rfl⟩
       ·rcases Nat.lt_or_ge j z with h3 | h3
        ·have := i1 j h3; omega
        ·rw [show j = z by omega]; exact Int.le_refl _
       ·have := i1 j hj; omega
      ·refine hR2 (sh.length - (z + 1)) _ (by omega) ⟨p, z + 1, rfl, by omega, by omega, fun j hj => ?_, i2, rfl⟩
       rcases Nat.lt_or_ge j z with h3 | h3
       ·exact i1 j h3
       ·rw [show j = z by omega]; omega
     ·have hf2 : decide ((z : Int) < (sh.length : Int)) = false := by simp; omega
      have e : p = m := hfound p (by omega) (fun j hj => i1 j (by omega)) i2
      subst e
      repeat' (first | ((with_reducible apply nrm); (· simp only [sbe]; rfl)) | ((with_reducible apply u_iteF); (· rfl); (· exact hf2)) | ((with_reducible apply u_lenL); (· rfl); (· exact lenL_map); (· simp only [sbe]; rfl)) | ((with_reducible apply u_ev); (· rfl); (· simp only [sbe]; rfl)) | ((with_reducible apply u_jump); (· rfl); (· rfl)) | (with_reducible refine at_jump ?_) | (with_reducible refine over_jump (by decide) ?_))
      exact ⟨_, _, _, _, rfl⟩
    ·rintro _ ⟨d1, d2, d3, d4, rfl⟩
     refine kj rfl ?_
     obtain ⟨w, hw⟩ : ∃ w, C[m]? = some w := ⟨_, List.getElem?_eq_getElem (by omega)⟩
     rw [show k - (i + 1) = k - i - 1 by omega] at hr
     repeat' (first | ((with_reducible apply nrm); (· simp only [sbe]; rfl)) | ((with_reducible apply u_idx); (· rfl); (· rfl); (· first | exact idx_is hv | exact idx_is hw); (· simp only [sbe]; rfl)) | ((with_reducible apply u_set); (· rfl); (· rfl); (· rfl); (· first | exact set_is hAl _ | exact set_is (show m < C.length by omega) _); (· simp only [sbe]; rfl)) | ((with_reducible apply u_pred); (· rfl); (· omega); (· simp only [sbe]; rfl)) | ((with_reducible apply u_add); (· rfl); (· rfl); (· omega); (· simp only [sbe]; rfl)) | ((with_reducible apply u_ev); (· exact e_cidx hv rfl rfl); (· simp only [sbe]; rfl)) | ((with_reducible apply u_jump); (· rfl); (· rfl)) | (with_reducible refine at_jump ?_) | (with_reducible refine kj rfl ?_))
     exact hr
   ·have hf : decide (((k - k : Nat) : Int) > 0) = false := by simp
    repeat' (first | ((with_reducible apply nrm); (· simp only [sbe]; rfl)) | ((with_reducible apply u_iteF); (· rfl); (· exact hf)) | ((with_reducible apply u_ev); (· rfl); (· simp only [sbe]; rfl)) | ((with_reducible apply u_jump); (· rfl); (· rfl)) | (with_reducible refine at_jump ?_) | (with_reducible refine over_jump (by decide) ?_) | (with_reducible refine kj rfl ?_) | (with_reducible exact u_ret rfl rfl))

end Go.Am.Ct

/-
 The law on splitting.
-/
namespace Go.Am.Ct
open Go.Proofs Go.Am.Ap Go.Am.Srt
set_option maxRecDepth 100000
set_option maxHeartbeats 4000000

variable {bs : List D}

attribute [local irreducible] inR

section
variable {a : Int} {sh : List Int}

theorem fal_take_ok (xs : List Int) (k : Nat) : ((fal xs).take k).Nodup ∧ ∀ x, x ∈ (fal xs).take k → 0 ≤ x ∧ x < xs.length :=
 ⟨(fal_nodup xs).sublist (List.take_sublist _ _), fun _ hx => fal_mem.1 (List.mem_of_mem_take hx)⟩

theorem spl_len : (spl a sh).length = sh.length := by unfold spl; rw [addAt_len, fls_len]

theorem spl_sum (h : ShOk sh) : (spl a sh).sum = a := by
 obtain ⟨h0, h1, _⟩ := lft_bd h a
 obtain ⟨k1, k2⟩ := fal_take_ok (rss a sh) (lft a sh).toNat
 unfold spl
 rw [addAt_sum k1 (fun x hx => by have := k2 x hx; rw [rss_len] at this; rw [fls_len]; exact this), List.length_take, fal_len, rss_len]
 have : lft a sh = a - (fls a sh).sum := rfl
 omega

theorem fal_pos (h : ShOk sh) {m : Nat} (hm : (m : Int) ∈ (fal (rss a sh)).take (lft a sh).toNat) : 0 < (rss a sh).getD m 0 := by
 obtain ⟨h0, h1, h2⟩ := lft_bd h a
 have hp := h.pos
 have hrb : ∀ x, x ∈ rss a sh → 0 ≤ x ∧ x ≤ sh.sum - 1 := fun x hx => by
  obtain ⟨s, _, rfl⟩ := List.mem_map.1 hx
  have := rs_bd h a s
  omega
 obtain ⟨t, ht, e⟩ := List.mem_iff_getElem.1 hm
 rw [List.length_take] at ht
 rw [List.getElem_take] at e
 have htF : t < (fal (rss a sh)).length := by omega
 have hmr := fal_mem.1 (List.mem_of_mem_take hm)
 have hmr' : m < (rss a sh).length := by omega
 rcases Int.lt_or_le 0 ((rss a sh).getD m 0) with hlt | hle
 ·exact hlt
 ·exfalso
  have hs : (fal (rss a sh)).Pairwise (lt (cmpX (rss a sh))) := so_sorted (ordX _) (fun x hx => by have := upI_mem.1 hx; exact this) (grow_nodup (upI_grow _))
  have hz : ∀ p, t ≤ p → (hpl : p < (fal (rss a sh)).length) → (rss a sh).getD ((fal (rss a sh))[p]).toNat 0 ≤ 0 := fun p htp hpl => by
   rcases Nat.lt_or_ge t p with h3 | h3
   ·have hlt := (List.pairwise_iff_getElem.1 hs) t p htF hpl h3
    rw [e] at hlt
    unfold lt cmpX cmpD at hlt
    simp only [Int.toNat_natCast] at hlt
    by_cases q1 : (rss a sh).getD ((fal (rss a sh))[p]).toNat 0 < (rss a sh).getD m 0
    ·omega
    ·rw [if_neg q1] at hlt
     by_cases q2 : (rss a sh).getD m 0 < (rss a sh).getD ((fal (rss a sh))[p]).toNat 0
     ·rw [if_pos q2] at hlt
      omega
     ·omega
   ·have e2 : p = t := by omega
    subst e2
    rw [e]
    simpa using hle
  have hsum : (rss a sh).sum = ((fal (rss a sh)).map fun x => (rss a sh).getD x.toNat 0).sum := by
   have hperm : (fal (rss a sh)).Perm (upI (rss a sh).length) := so_perm _
   rw [sum_perm (hperm.map fun x => (rss a sh).getD x.toNat 0)]
   unfold upI
   rw [List.map_map, ← sum_getD]
   rfl
  have hcut : ((fal (rss a sh)).map fun x => (rss a sh).getD x.toNat 0) = ((fal (rss a sh)).take t).map (fun x => (rss a sh).getD x.toNat 0) ++ ((fal (rss a sh)).drop t).map (fun x => (rss a sh).getD x.toNat 0) := by
   rw [← List.map_append, List.take_append_drop]
  rw [hcut, List.sum_append] at hsum
  have hd : (((fal (rss a sh)).drop t).map fun x => (rss a sh).getD x.toNat 0).sum ≤ 0 := sum_zero fun x hx => by
   obtain ⟨y, hy, rfl⟩ := List.mem_map.1 hx
   obtain ⟨q, hq, rfl⟩ := List.mem_iff_getElem.1 hy
   rw [List.length_drop] at hq
   rw [List.getElem_drop]
   exact hz (t + q) (by omega) (by omega)
  have ht2 := (sum_bd (B := sh.sum - 1) (by omega) (l := ((fal (rss a sh)).take t).map fun x => (rss a sh).getD x.toNat 0) (fun x hx => by
   obtain ⟨y, hy, rfl⟩ := List.mem_map.1 hx
   have hy2 := fal_mem.1 (List.mem_of_mem_take hy)
   have hyl : y.toNat < (rss a sh).length := by omega
   rw [getD_of (List.getElem?_eq_getElem hyl)]
   exact hrb _ (List.getElem_mem _))).2
  rw [List.length_map, List.length_take, Nat.min_eq_left (by omega)] at ht2
  have h3 : (t + 1 : Int) * sh.sum ≤ lft a sh * sh.sum := Int.mul_le_mul_of_nonneg_right (by omega) (by omega)
  have h4 : (t + 1 : Int) * sh.sum = t * sh.sum + sh.sum := by rw [Int.add_mul, Int.one_mul]
  have h5 : (sh.sum - 1) * (t : Int) = t * sh.sum - t := by rw [Int.sub_mul, Int.one_mul, Int.mul_comm]
  omega

theorem spl_near (h : ShOk sh) (ha : 0 ≤ a ∧ a ≤ 1000000000000) {i : Nat} {s x : Int} (hs : (spl a sh)[i]? = some s) (hx : sh[i]? = some x) : (s - 1) * sh.sum < a * x ∧ a * x < (s + 1) * sh.sum ∧ 0 ≤ s ∧ s ≤ a + 1 := by
 have hp := h.pos
 have hxm := List.mem_of_getElem? hx
 have hb := rs_bd h a x
 have hf := fl_bd h ha hxm
 have hle : fl a sh.sum x ≤ a := by
  have hle := mem_le_sum (fun y hy => (h.bd y hy).1) x hxm
  exact Int.ediv_le_of_le_mul hp (Int.mul_le_mul_of_nonneg_left hle ha.1)
 have e : a * x = sh.sum * fl a sh.sum x + rs a sh.sum x := (Int.mul_ediv_add_emod (a * x) sh.sum).symm
 unfold spl at hs
 rw [addAt_get] at hs
 have hfx : (fls a sh)[i]? = some (fl a sh.sum x) := by simp [fls, hx]
 rw [hfx, Option.map_some, Option.some.injEq] at hs
 have em : sh.sum * fl a sh.sum x = fl a sh.sum x * sh.sum := Int.mul_comm _ _
 by_cases hm : (i : Int) ∈ (fal (rss a sh)).take (lft a sh).toNat
 ·rw [if_pos hm] at hs
  have hpos := fal_pos h hm
  have hrx : (rss a sh).getD i 0 = rs a sh.sum x := getD_of (by simp [rss, hx])
  rw [hrx] at hpos
  have q1 : (s - 1) * sh.sum = fl a sh.sum x * sh.sum := by rw [show s - 1 = fl a sh.sum x by omega]
  have q2 : (s + 1) * sh.sum = fl a sh.sum x * sh.sum + 2 * sh.sum := by rw [show s + 1 = fl a sh.sum x + 2 by omega, Int.add_mul]
  omega
 ·rw [if_neg hm] at hs
  have q1 : (s - 1) * sh.sum = fl a sh.sum x * sh.sum - sh.sum := by rw [show s - 1 = fl a sh.sum x - 1 by omega, Int.sub_mul, Int.one_mul]
  have q2 : (s + 1) * sh.sum = fl a sh.sum x * sh.sum + sh.sum := by rw [show s + 1 = fl a sh.sum x + 1 by omega, Int.add_mul, Int.one_mul]
  omega

end

theorem c3 (a : Int) (sh : List Int) : FSpecW Try.prog 3 (.st bs) [I a, Is sh] (B true) (.st bs) := by
 have k16 := known_spec bs
 by_cases hl : 110 < sh.length
 ·have ht : decide ((sh.length : Int) > 110) = true := by simp; omega
  refine ku3.W rfl ?_
  unfold u3
  simp only [ups_cons, ups_nil, List.cons_append, List.nil_append]
  repeat' (first | ((with_reducible apply u_iteT); (· rfl); (· exact ht)) | ((with_reducible apply u_lenL); (· rfl); (· exact lenL_map); (· simp only [sbe]; rfl)) | ((with_reducible apply u_ev); (· rfl); (· simp only [sbe]; rfl)) | ((with_reducible apply u_call); (· rfl); (· rfl); (· exact k16); (· rfl); (· simp only [sbe]; rfl)) | (with_reducible exact u_ret rfl rfl))
 ·have hf : decide ((sh.length : Int) > 110) = false := by simp; omega
  have k17 := c17 (bs := bs) a sh (by omega)
  have k18 := c18 (bs := bs) sh (by omega)
  have ein : splOk a sh = (!(decide (a < 0) || decide (a > 1000000000000)) && shOk sh) := by
   unfold splOk inR
   congr 1
   by_cases h1 : a < 0
   ·rw [decide_eq_true h1, decide_eq_false (show ¬ 0 ≤ a by omega)]; rfl
   ·rw [decide_eq_false h1, decide_eq_true (show 0 ≤ a by omega)]
    by_cases h2 : a ≤ 1000000000000
    ·rw [decide_eq_true h2, decide_eq_false (show ¬ a > 1000000000000 by omega)]; rfl
    ·rw [decide_eq_false h2, decide_eq_true (show a > 1000000000000 by omega)]; rfl
  refine ku3.W rfl ?_
  unfold u3
  simp only [ups_cons, ups_nil, List.cons_append, List.nil_append]
  cases hok : splOk a sh
  ·rw [hok] at k17 ein
   rw [if_neg (by simp)] at k17
   have ht : ((decide (a < 0) || decide (a > 1000000000000)) || !shOk sh) = true := by
    cases h1 : (decide (a < 0) || decide (a > 1000000000000))
    ·rw [h1] at ein
     cases h2 : shOk sh
     ·rfl
     ·rw [h2] at ein; cases ein
    ·rfl
   repeat' (first | ((with_reducible apply nrm); (· simp only [sbe]; rfl)) | ((with_reducible apply u_iteT); (· rfl); (· exact ht)) | ((with_reducible apply u_iteF); (· rfl); (· exact hf)) | ((with_reducible apply u_chk); (· rfl)) | ((with_reducible apply u_lenL); (· rfl); (· exact lenL_map); (· simp only [sbe]; rfl)) | ((with_reducible apply u_ev); (· rfl); (· simp only [sbe]; rfl)) | ((with_reducible apply u_call); (· rfl); (· rfl); (· first | exact k17 | exact k18 | exact k16); (· rfl); (· simp only [sbe]; rfl)) | ((with_reducible apply u_or); (· rfl)) | ((with_reducible apply u_and); (· rfl)) | (with_reducible exact u_ret rfl rfl) | ((with_reducible intro hz); (try simp only [sbs] at hz)))
  ·rw [hok] at k17 ein
   rw [if_pos rfl] at k17
   have hf2 : ((decide (a < 0) || decide (a > 1000000000000)) || !shOk sh) = false := by
    cases h1 : (decide (a < 0) || decide (a > 1000000000000))
    ·rw [h1] at ein
     rw [show shOk sh = true by simpa using ein.symm]
     rfl
    ·rw [h1] at ein; cases ein
   unfold splOk at hok
   rw [Bool.and_eq_true] at hok
   have ha : 0 ≤ a ∧ a ≤ 1000000000000 := by
    have := hok.1
    unfold inR at this
    simpa using this
   have h := (shOk_iff sh).1 hok.2
   have hn1 := h.n1
   have k20 := c20 (bs := bs) ha h
   have k19 := c19 (bs := bs) (spl a sh) (spl a sh) (by rw [spl_len]; omega)
   rw [decide_eq_true rfl] at k19
   have hsum := h.sum
   have hpos := h.pos
   have hss := spl_sum (a := a) h
   have hf3 : ((0 : Int) != 0 || !true) = false := by simp
   have hspb : ∀ s, s ∈ spl a sh → 0 ≤ s ∧ s ≤ 1000000000001 := fun s hs => by
    obtain ⟨i, hi, rfl⟩ := List.mem_iff_getElem.1 hs
    have hi2 : i < sh.length := by rw [spl_len] at hi; exact hi
    have := spl_near h ha (List.getElem?_eq_getElem hi) (List.getElem?_eq_getElem hi2)
    omega
   repeat' (first | ((with_reducible apply nrm); (· simp only [sbe]; rfl)) | ((with_reducible apply u_iteF); (· rfl); (· first | exact hf | exact hf2 | exact hf3)) | ((with_reducible apply u_chk); (· rfl)) | ((with_reducible apply u_lenL); (· rfl); (· exact lenL_map); (· simp only [sbe]; rfl)) | ((with_reducible apply u_ev); (· rfl); (· simp only [sbe]; rfl)) | ((with_reducible apply u_call); (· rfl); (· rfl); (· first | exact k17 | exact k18 | exact k20 | exact k19); (· rfl); (· simp only [sbe]; rfl)) | ((with_reducible apply u_or); (· rfl)) | (with_reducible refine u_join ?_) | (with_reducible exact u_ret rfl rfl) | ((with_reducible intro hz); (try simp only [sbs] at hz)))
   refine u_range (fun i => [I ((spl a sh).take i).sum, I (sh.take i).sum, I i]) (fun _ => True) (spl a sh).length rfl (fun _ => rfl) trivial (fun i hi _ R hR => ?_) (fun _ R => ?_)
   ·have hr := hR trivial
    have hi2 : i < sh.length := by rw [spl_len] at hi; exact hi
    obtain ⟨s, hs⟩ : ∃ s, (spl a sh)[i]? = some s := ⟨_, List.getElem?_eq_getElem hi⟩
    obtain ⟨x, hx⟩ : ∃ x, sh[i]? = some x := ⟨_, List.getElem?_eq_getElem hi2⟩
    have hsb := hspb s (List.mem_of_getElem? hs)
    have hxb := h.bd x (List.mem_of_getElem? hx)
    have hS := (sum_bd (B := 1000000000001) (by omega) (l := (spl a sh).take i) (fun y hy => hspb y (List.mem_of_mem_take hy)))
    have hX := (sum_bd (B := 1000000) (by omega) (l := sh.take i) (fun y hy => h.bd y (List.mem_of_mem_take hy)))
    rw [List.length_take] at hS hX
    rw [List.take_add_one, List.take_add_one, hs, hx] at hr
    simp only [Option.toList_some, List.sum_append, List.sum_cons, List.sum_nil, Int.add_zero] at hr
    have hli : decide ((i : Int) < ((spl a sh).length : Int)) = true := by simp; omega
    repeat' (first | ((with_reducible apply nrm); (· simp only [sbe]; rfl)) | ((with_reducible apply u_iteT); (· rfl); (· exact hli)) | ((with_reducible apply u_eaddr); (· rfl); (· rfl); (· first | exact eaddr_lst hs rfl | exact eaddr_lst hx rfl); (· simp only [sbe]; rfl)) | ((with_reducible apply u_lenL); (· rfl); (· exact lenL_map); (· simp only [sbe]; rfl)) | ((with_reducible apply u_inc); (· rfl); (· omega); (· simp only [sbe]; rfl)) | ((with_reducible apply u_add); (· rfl); (· rfl); (· omega); (· simp only [sbe]; rfl)) | ((with_reducible apply u_ev); (· rfl); (· simp only [sbe]; rfl)) | (with_reducible refine u_join ?_) | ((with_reducible apply u_jump); (· rfl); (· rfl)) | (with_reducible refine at_jump ?_) | (with_reducible refine kj rfl ?_))
    exact hr
   ·have e1 : (spl a sh).take (spl a sh).length = spl a sh := List.take_length
    have e2 : sh.take (spl a sh).length = sh := by rw [spl_len]; exact List.take_length
    rw [e1, e2, hss]
    have hli : decide (((spl a sh).length : Int) < ((spl a sh).length : Int)) = false := by simp
    repeat' (first | ((with_reducible apply nrm); (· simp only [sbe]; rfl)) | ((with_reducible apply u_iteF); (· rfl); (· exact hli)) | ((with_reducible apply u_lenL); (· rfl); (· exact lenL_map); (· simp only [sbe]; rfl)) | ((with_reducible apply u_ev); (· rfl); (· simp only [sbe]; rfl)) | (with_reducible refine u_join ?_) | ((with_reducible apply u_jump); (· rfl); (· rfl)) | (with_reducible refine at_jump ?_) | (with_reducible refine over_jump (by decide) ?_) | (with_reducible refine kj rfl ?_))
    by_cases hbig : a ≤ 1000000
    ·refine u_range (fun i => [I i]) (fun _ => True) (spl a sh).length rfl (fun _ => rfl) trivial (fun i hi _ R2 hR2 => ?_) (fun _ R2 => ?_)
     ·have hi2 : i < sh.length := by rw [spl_len] at hi; exact hi
      obtain ⟨s, hs⟩ : ∃ s, (spl a sh)[i]? = some s := ⟨_, List.getElem?_eq_getElem hi⟩
      obtain ⟨x, hx⟩ : ∃ x, sh[i]? = some x := ⟨_, List.getElem?_eq_getElem hi2⟩
      have hnr := spl_near h ha hs hx
      have hmul := h.mul ha (List.mem_of_getElem? hx)
      have m1 : -100000000 ≤ (s - 1) * sh.sum := by
       have := Int.mul_le_mul_of_nonneg_right (show (-1 : Int) ≤ s - 1 by omega) (show 0 ≤ sh.sum by omega)
       omega
      have m2 : (s + 1) * sh.sum ≤ 1000002 * 100000000 := Int.mul_le_mul (by omega) hsum (by omega) (by omega)
      have m3 : 0 ≤ (s + 1) * sh.sum := Int.mul_nonneg (by omega) (by omega)
      have b1 := bin_mulI (a := s - 1) (b := sh.sum) (by omega)
      have b2 := bin_mulI (a := a) (b := x) (by omega)
      have b3 := bin_mulI (a := s + 1) (b := sh.sum) (by omega)
      have hc : (decide ((i : Int) < ((spl a sh).length : Int)) && decide (a ≤ 1000000)) = true := by simp; omega
      have hc2 : (decide ((s - 1) * sh.sum ≥ a * x) || decide ((s + 1) * sh.sum ≤ a * x)) = false := by
       rw [Bool.or_eq_false_iff, decide_eq_false_iff_not, decide_eq_false_iff_not]
       omega
      repeat' (first | ((with_reducible apply nrm); (· simp only [sbe]; rfl)) | ((with_reducible apply u_iteT); (· rfl); (· exact hc)) | ((with_reducible apply u_iteF); (· rfl); (· exact hc2)) | ((with_reducible apply u_chk); (· rfl)) | ((with_reducible apply u_eaddr); (· rfl); (· rfl); (· first | exact eaddr_lst hs rfl | exact eaddr_lst hx rfl); (· simp only [sbe]; rfl)) | ((with_reducible apply u_bin); (· rfl); (· rfl); (· first | exact b1 | exact b2 | exact b3); (· simp only [sbe]; rfl)) | ((with_reducible apply u_lenL); (· rfl); (· exact lenL_map); (· simp only [sbe]; rfl)) | ((with_reducible apply u_inc); (· rfl); (· omega); (· simp only [sbe]; rfl)) | ((with_reducible apply u_add); (· rfl); (· rfl); (· omega); (· simp only [sbe]; rfl)) | ((with_reducible apply u_sub); (· rfl); (· rfl); (· omega); (· simp only [sbe]; rfl)) | ((with_reducible apply u_ev); (· rfl); (· simp only [sbe]; rfl)) | ((with_reducible apply u_or); (· rfl)) | ((with_reducible apply u_and); (· rfl)) | (with_reducible refine u_join ?_) | ((with_reducible apply u_jump); (· rfl); (· rfl)) | (with_reducible refine at_jump ?_) | (with_reducible refine kj rfl ?_) | (with_reducible exact u_ret rfl rfl) | ((with_reducible intro hz); (try simp only [sbs] at hz)))
      exact hR2 trivial
     ·have hc : (decide (((spl a sh).length : Int) < ((spl a sh).length : Int)) && decide (a ≤ 1000000)) = false := by simp
      repeat' (first | ((with_reducible apply nrm); (· simp only [sbe]; rfl)) | ((with_reducible apply u_iteF); (· rfl); (· exact hc)) | ((with_reducible apply u_lenL); (· rfl); (· exact lenL_map); (· simp only [sbe]; rfl)) | ((with_reducible apply u_ev); (· rfl); (· simp only [sbe]; rfl)) | ((with_reducible apply u_call); (· rfl); (· rfl); (· exact k16); (· rfl); (· simp only [sbe]; rfl)) | ((with_reducible apply u_and); (· rfl)) | ((with_reducible apply u_jump); (· rfl); (· rfl)) | (with_reducible refine at_jump ?_) | (with_reducible refine over_jump (by decide) ?_) | (with_reducible refine kj rfl ?_) | (with_reducible exact u_ret rfl rfl) | ((with_reducible apply u_ret); (· rfl); first | exact rfl | (refine retB ?_) | (refine retI ?_) | (refine retD ?_)) | ((with_reducible intro hz); (try simp only [sbs] at hz)))
      simp
    ·refine u_range (fun i => [I i]) (fun _ => True) 0 rfl (fun _ => rfl) trivial (fun i hi _ R2 hR2 => absurd hi (Nat.not_lt_zero _)) (fun _ R2 => ?_)
     have hc : (decide (((0 : Nat) : Int) < ((spl a sh).length : Int)) && decide (a ≤ 1000000)) = false := by rw [decide_eq_false hbig, Bool.and_false]
     repeat' (first | ((with_reducible apply nrm); (· simp only [sbe]; rfl)) | ((with_reducible apply u_iteF); (· rfl); (· exact hc)) | ((with_reducible apply u_lenL); (· rfl); (· exact lenL_map); (· simp only [sbe]; rfl)) | ((with_reducible apply u_ev); (· rfl); (· simp only [sbe]; rfl)) | ((with_reducible apply u_call); (· rfl); (· rfl); (· exact k16); (· rfl); (· simp only [sbe]; rfl)) | ((with_reducible apply u_and); (· rfl)) | ((with_reducible apply u_jump); (· rfl); (· rfl)) | (with_reducible refine at_jump ?_) | (with_reducible refine over_jump (by decide) ?_) | (with_reducible refine kj rfl ?_) | (with_reducible exact u_ret rfl rfl) | ((with_reducible apply u_ret); (· rfl); first | exact rfl | (refine retB ?_) | (refine retI ?_) | (refine retD ?_)) | ((with_reducible intro hz); (try simp only [sbs] at hz)))
     simp

end Go.Am.Ct

/-
 Arguments of laws.
-/
namespace Go.Am.Ct
open Go.Am.Ap

theorem argInt {x : D} (h : ArgSh (.int .i64) x) : ∃ n, x = I n ∧ Ap.i64 n := by
 obtain ⟨n, hn, hb⟩ := ofI (h.2 rfl)
 cases hn
 exact ⟨n, rfl, hb⟩

def IsOk (l : List Int) : Prop := (∀ x, x ∈ l → Ap.i64 x) ∧ l.length ≤ maxLen

theorem argInts {x : D} (h : ArgSh (.sl (.int .i64)) x) : ∃ l : List Int, x = Is l ∧ IsOk l := by
 obtain ⟨xs, hx, h1, h2⟩ := ofSl (h.2 rfl)
 cases hx
 exact ⟨xs, rfl, h1, h2⟩

end Go.Am.Ct

/-
 The law on settling.
-/
namespace Go.Am.Ct
open Go.Proofs Go.Am.Ap Go.Am.Srt
set_option maxRecDepth 100000
set_option maxHeartbeats 4000000

variable {bs : List D}

attribute [local irreducible] inR

structure Pol where
 base : Int
 limit : Int
 sh : List Int

def Pol.d (p : Pol) : D := .agg [I p.base, I p.limit, Is p.sh]

theorem mm_max (a b : Int) : D.mm true (I a) (I b) = some (I (max a b)) := by
 simp [D.mm]
 split <;> omega
theorem mm_min (a b : Int) : D.mm false (I a) (I b) = some (I (min a b)) := by
 simp [D.mm]
 split <;> omega

def setGo (base : Int) : List Int → Int → List Int × Int
 | [], left => ([], left)
 | d :: r, left => (min left (max 0 (d - base)) :: (setGo base r (left - min left (max 0 (d - base)))).1, (setGo base r (left - min left (max 0 (d - base)))).2)

theorem setGo_cons (base d left : Int) (r : List Int) : setGo base (d :: r) left = (min left (max 0 (d - base)) :: (setGo base r (left - min left (max 0 (d - base)))).1, (setGo base r (left - min left (max 0 (d - base)))).2) := rfl

theorem setGo_bd {base : Int} (hb : 0 ≤ base) : ∀ {ds : List Int} {left : Int}, 0 ≤ left → (∀ d, d ∈ ds → 0 ≤ d) →
  0 ≤ (setGo base ds left).2 ∧ (setGo base ds left).2 ≤ left ∧ (setGo base ds left).1.length = ds.length ∧ (setGo base ds left).1.sum = left - (setGo base ds left).2 ∧ ∀ (i : Nat) (x d : Int), (setGo base ds left).1[i]? = some x → ds[i]? = some d → 0 ≤ x ∧ x ≤ d
 | [], left, h, _ => by simp [setGo, h]
 | d :: r, left, h, hd => by
  have h1 := hd d (by simp)
  obtain ⟨n, hn⟩ : ∃ n, n = min left (max 0 (d - base)) := ⟨_, rfl⟩
  have k := setGo_bd hb (ds := r) (left := left - n) (by omega) (fun x hx => hd x (by simp [hx]))
  rw [setGo_cons, ← hn]
  obtain ⟨k1, k2, k3, k4, k5⟩ := k
  refine ⟨k1, by simp only; omega, by simp [k3], by simp only [List.sum_cons]; omega, fun i x y hx hy => ?_⟩
  cases i with
  | zero =>
   simp at hx hy
   omega
  | succ i => exact k5 i x y (by simpa using hx) (by simpa using hy)

def polOk (p : Pol) : Bool := (inR p.base 0 1000000000 && inR p.limit 0 1000000000000) && shOk p.sh
def setOk (p : Pol) (ds : List Int) : Bool := (polOk p && decide ((ds.length : Int) ≤ 1000)) && ds.all fun x => inR x 0 1000000000

theorem c80 (x : Int) : FSpecR Try.prog 80 (.st bs) [I x] (B (!inR x 0 1000000000)) := by
 refine ku80.R rfl rfl ?_
 unfold u80
 simp only [ups_cons, ups_nil, List.cons_append, List.nil_append]
 repeat' (first | ((with_reducible apply u_ev); (· rfl); (· simp only [sbe]; rfl)) | ((with_reducible apply u_call); (· rfl); (· rfl); (· exact c52 _ _ _); (· rfl); (· simp only [sbe]; rfl)) | (with_reducible exact u_ret rfl rfl))

theorem inE {x a b : Int} (h : inR x a b = true) : a ≤ x ∧ x ≤ b := by unfold inR at h; simpa using h

theorem c36 (p : Pol) (ds : List Int) (hL : ds.length ≤ 1000000) (hS : p.sh.length ≤ 1000000) : FSpecR Try.prog 36 (.st bs) [p.d, Is ds] (if setOk p ds = true then .tup [Is (setGo p.base ds p.limit).1, Is (spl (p.limit - (setGo p.base ds p.limit).2) p.sh), I 0] else .tup [.lst [], .lst [], I 2]) := by
 have k1 := c52 (bs := bs) p.base 0 1000000000
 have k2 := c52 (bs := bs) p.limit 0 1000000000000
 have k53 := c53 (bs := bs) p.sh hS
 have k79 := c79 (bs := bs) (P := fun x => !inR x 0 1000000000) (f := 80) (us := []) (cs := []) (l := ds) (by omega) rfl (fun x _ => c80 x)
 have e79 : (!(ds.any fun x => !inR x 0 1000000000)) = ds.all fun x => inR x 0 1000000000 := by simp [List.all_eq_not_any_not]
 have hbad : ((((!inR p.base 0 1000000000 || !inR p.limit 0 1000000000000) || !shOk p.sh) || decide ((ds.length : Int) > 1000)) || (ds.any fun x => !inR x 0 1000000000)) = !setOk p ds := by
  unfold setOk polOk
  rw [← e79]
  have : decide ((ds.length : Int) > 1000) = !decide ((ds.length : Int) ≤ 1000) := by
   by_cases h : (ds.length : Int) ≤ 1000
   ·rw [decide_eq_true h, decide_eq_false (by omega)]; rfl
   ·rw [decide_eq_false h, decide_eq_true (by omega)]; rfl
  rw [this]
  cases inR p.base 0 1000000000 <;> cases inR p.limit 0 1000000000000 <;> cases shOk p.sh <;> cases decide ((ds.length : Int) ≤ 1000) <;> cases (ds.any fun x => !inR x 0 1000000000) <;> rfl
 refine ku36.R rfl rfl ?_
 unfold u36
 simp only [ups_cons, ups_nil, List.cons_append, List.nil_append]
 cases hok : setOk p ds
 ·rw [hok] at hbad
  repeat' (first | ((with_reducible apply nrm); (· simp only [sbe]; rfl)) | ((with_reducible apply u_iteT); (· rfl); (· exact hbad)) | ((with_reducible apply u_chk); (· rfl)) | ((with_reducible apply u_lenL); (· rfl); (· exact lenL_map); (· simp only [sbe]; rfl)) | ((with_reducible apply u_ev); (· rfl); (· simp only [sbe]; rfl)) | ((with_reducible apply u_call); (· rfl); (· rfl); (· first | exact k1 | exact k2 | exact k53 | exact k79); (· rfl); (· simp only [sbe]; rfl)) | ((with_reducible apply u_or); (· rfl)) | (with_reducible exact u_ret rfl rfl) | ((with_reducible intro hz); (try simp only [sbs] at hz)))
 ·rw [hok] at hbad
  rw [if_pos rfl]
  unfold setOk polOk at hok
  simp only [Bool.and_eq_true] at hok
  obtain ⟨⟨⟨⟨o1, o2⟩, o3⟩, o4⟩, o5⟩ := hok
  have p1 := inE o1
  have p2 := inE o2
  have hdm : ∀ d, d ∈ ds → 0 ≤ d ∧ d ≤ 1000000000 := fun d hd => inE (List.all_eq_true.1 o5 d hd)
  have hbd := setGo_bd p1.1 p2.1 (fun d hd => (hdm d hd).1)
  have k54 := c54l (bs := bs) (a := p.limit - (setGo p.base ds p.limit).2) (by omega) ((shOk_iff _).1 o3)
  repeat' (first | ((with_reducible apply nrm); (· simp only [sbe]; rfl)) | ((with_reducible apply u_iteF); (· rfl); (· exact hbad)) | ((with_reducible apply u_chk); (· rfl)) | ((with_reducible apply u_lenL); (· rfl); (· exact lenL_map); (· simp only [sbe]; rfl)) | ((with_reducible apply u_ev); (· rfl); (· simp only [sbe]; rfl)) | ((with_reducible apply u_call); (· rfl); (· rfl); (· first | exact k1 | exact k2 | exact k53 | exact k79); (· rfl); (· simp only [sbe]; rfl)) | ((with_reducible apply u_or); (· rfl)) | (with_reducible refine u_join ?_) | (with_reducible exact u_ret rfl rfl) | ((with_reducible intro hz); (try simp only [sbs] at hz)))
  refine u_list ds (fun (st : List Int × Int) i => [Is st.1, I st.2, I i]) (fun r st => (st.1 ++ (setGo p.base r st.2).1, (setGo p.base r st.2).2) = setGo p.base ds p.limit ∧ 0 ≤ st.2 ∧ st.2 ≤ p.limit ∧ st.1.length + r.length ≤ 1000000) ([], p.limit) rfl (fun _ _ => rfl) ⟨rfl, p2.1, Int.le_refl _, by simpa using hL⟩ (fun i x st hx hlt hG R hR => ?_) (fun st hG R => ?_)
  ·obtain ⟨acc, left⟩ := st
   obtain ⟨g1, g2, g3, g4⟩ := hG
   simp only [List.length_cons] at g4
   rw [setGo_cons] at g1
   have hxb := hdm x (List.mem_of_getElem? hx)
   obtain ⟨n, hn⟩ : ∃ n, n = min left (max 0 (x - p.base)) := ⟨_, rfl⟩
   rw [← hn] at g1
   have mn := mm_min left (max 0 (x - p.base))
   rw [← hn] at mn
   have ha1 := app1_lst (xs := acc) (enc := I) (a := n) (sz := 1) (bytes := 8) (by omega) (by unfold maxLen; omega) (fun _ => rfl)
   have hli : decide ((i : Int) < (ds.length : Int)) = true := by simp; omega
   simp only at g1 g2 g3
   repeat' (first | ((with_reducible apply nrm); (· simp only [sbe]; rfl)) | ((with_reducible apply u_iteT); (· rfl); (· exact hli)) | ((with_reducible apply u_eaddr); (· rfl); (· rfl); (· exact eaddr_lst hx rfl); (· simp only [sbe]; rfl)) | ((with_reducible apply u_app); (· rfl); (· rfl); (· exact ha1); (· simp only [sbe]; rfl)) | ((with_reducible apply u_mm); (· rfl); (· rfl); (· first | exact mm_max _ _ | exact mn); (· simp only [sbe]; rfl)) | ((with_reducible apply u_inc); (· rfl); (· omega); (· simp only [sbe]; rfl)) | ((with_reducible apply u_sub); (· rfl); (· rfl); (· omega); (· simp only [sbe]; rfl)) | ((with_reducible apply u_ev); (· rfl); (· simp only [sbe]; rfl)) | (with_reducible refine u_join ?_) | ((with_reducible apply u_jump); (· rfl); (· rfl)) | (with_reducible refine at_jump ?_) | (with_reducible refine kj rfl ?_))
   exact hR (acc ++ [n], left - n) ⟨by rw [← g1]; simp, by simp only; omega, by simp only; omega, by rw [List.length_append, List.length_cons, List.length_nil]; omega⟩
  ·obtain ⟨acc, left⟩ := st
   obtain ⟨g1, g2, g3, g4⟩ := hG
   have e : (acc, left) = setGo p.base ds p.limit := by rw [← g1]; simp [setGo]
   rw [← e] at k54 ⊢
   simp only at k54 g2 g3 ⊢
   have hli : decide ((ds.length : Int) < (ds.length : Int)) = false := by simp
   repeat' (first | ((with_reducible apply nrm); (· simp only [sbe]; rfl)) | ((with_reducible apply u_iteF); (· rfl); (· exact hli)) | ((with_reducible apply u_sub); (· rfl); (· rfl); (· omega); (· simp only [sbe]; rfl)) | ((with_reducible apply u_ev); (· rfl); (· simp only [sbe]; rfl)) | ((with_reducible apply u_call); (· rfl); (· rfl); (· exact k54); (· rfl); (· simp only [sbe]; rfl)) | ((with_reducible apply u_jump); (· rfl); (· rfl)) | (with_reducible refine at_jump ?_) | (with_reducible refine over_jump (by decide) ?_) | (with_reducible refine kj rfl ?_) | (with_reducible exact u_ret rfl rfl))

theorem c37 (p : Pol) (hS : p.sh.length ≤ 1000000) : FSpecR Try.prog 37 (.st bs) [p.d] (B (polOk p)) := by
 have k1 := c55 (bs := bs) p.base 0 1000000000
 have k2 := c55 (bs := bs) p.limit 0 1000000000000
 have k18 := c18 (bs := bs) p.sh hS
 refine ku37.R rfl rfl ?_
 unfold u37
 simp only [ups_cons, ups_nil, List.cons_append, List.nil_append]
 repeat' (first | ((with_reducible apply nrm); (· simp only [sbe]; rfl)) | ((with_reducible apply u_chk); (· rfl)) | ((with_reducible apply u_call); (· rfl); (· rfl); (· first | exact k1 | exact k2 | exact k18); (· rfl); (· simp only [sbe]; rfl)) | ((with_reducible apply u_and); (· rfl)) | (with_reducible exact u_ret rfl rfl) | ((with_reducible intro hz); (try simp only [sbs] at hz)))

theorem c38 (p : Pol) (ds : List Int) (hL : ds.length ≤ 1000000) (hok : setOk p ds = true) : FSpecR Try.prog 38 (.st bs) [p.d, Is ds] (.tup [Is (setGo p.base ds p.limit).1, Is (spl (p.limit - (setGo p.base ds p.limit).2) p.sh)]) := by
 unfold setOk polOk at hok
 simp only [Bool.and_eq_true] at hok
 obtain ⟨⟨⟨⟨o1, o2⟩, o3⟩, o4⟩, o5⟩ := hok
 have p1 := inE o1
 have p2 := inE o2
 have hdm : ∀ d, d ∈ ds → 0 ≤ d ∧ d ≤ 1000000000 := fun d hd => inE (List.all_eq_true.1 o5 d hd)
 have hbd := setGo_bd p1.1 p2.1 (fun d hd => (hdm d hd).1)
 have k20 := c20 (bs := bs) (a := p.limit - (setGo p.base ds p.limit).2) (by omega) ((shOk_iff _).1 o3)
 refine ku38.R rfl rfl ?_
 unfold u38
 simp only [ups_cons, ups_nil, List.cons_append, List.nil_append]
 repeat' (first | ((with_reducible apply u_chk); (· rfl)) | (with_reducible refine u_join ?_))
 refine u_list ds (fun (st : List Int × Int) i => [Is st.1, I st.2, I i]) (fun r st => (st.1 ++ (setGo p.base r st.2).1, (setGo p.base r st.2).2) = setGo p.base ds p.limit ∧ 0 ≤ st.2 ∧ st.2 ≤ p.limit ∧ st.1.length + r.length ≤ 1000000) ([], p.limit) rfl (fun _ _ => rfl) ⟨rfl, p2.1, Int.le_refl _, by simpa using hL⟩ (fun i x st hx hlt hG R hR => ?_) (fun st hG R => ?_)
 ·obtain ⟨acc, left⟩ := st
  obtain ⟨g1, g2, g3, g4⟩ := hG
  simp only [List.length_cons] at g4
  rw [setGo_cons] at g1
  have hxb := hdm x (List.mem_of_getElem? hx)
  obtain ⟨n, hn⟩ : ∃ n, n = min left (max 0 (x - p.base)) := ⟨_, rfl⟩
  rw [← hn] at g1
  have mn := mm_min left (max 0 (x - p.base))
  rw [← hn] at mn
  have ha1 := app1_lst (xs := acc) (enc := I) (a := n) (sz := 1) (bytes := 8) (by omega) (by unfold maxLen; omega) (fun _ => rfl)
  have hli : decide ((i : Int) < (ds.length : Int)) = true := by simp; omega
  simp only at g1 g2 g3
  repeat' (first | ((with_reducible apply nrm); (· simp only [sbe]; rfl)) | ((with_reducible apply u_iteT); (· rfl); (· exact hli)) | ((with_reducible apply u_eaddr); (· rfl); (· rfl); (· exact eaddr_lst hx rfl); (· simp only [sbe]; rfl)) | ((with_reducible apply u_app); (· rfl); (· rfl); (· exact ha1); (· simp only [sbe]; rfl)) | ((with_reducible apply u_mm); (· rfl); (· rfl); (· first | exact mm_max _ _ | exact mn); (· simp only [sbe]; rfl)) | ((with_reducible apply u_lenL); (· rfl); (· exact lenL_map); (· simp only [sbe]; rfl)) | ((with_reducible apply u_inc); (· rfl); (· omega); (· simp only [sbe]; rfl)) | ((with_reducible apply u_sub); (· rfl); (· rfl); (· omega); (· simp only [sbe]; rfl)) | ((with_reducible apply u_ev); (· rfl); (· simp only [sbe]; rfl)) | (with_reducible refine u_join ?_) | ((with_reducible apply u_jump); (· rfl); (· rfl)) | (with_reducible refine at_jump ?_) | (with_reducible refine kj rfl ?_))
  exact hR (acc ++ [n], left - n) ⟨by rw [← g1]; simp, by simp only; omega, by simp only; omega, by rw [List.length_append, List.length_cons, List.length_nil]; omega⟩
 ·obtain ⟨acc, left⟩ := st
  obtain ⟨g1, g2, g3, g4⟩ := hG
  have e : (acc, left) = setGo p.base ds p.limit := by rw [← g1]; simp [setGo]
  rw [← e] at k20 ⊢
  simp only at k20 g2 g3 ⊢
  have hli : decide ((ds.length : Int) < (ds.length : Int)) = false := by simp
  repeat' (first | ((with_reducible apply nrm); (· simp only [sbe]; rfl)) | ((with_reducible apply u_iteF); (· rfl); (· exact hli)) | ((with_reducible apply u_lenL); (· rfl); (· exact lenL_map); (· simp only [sbe]; rfl)) | ((with_reducible apply u_sub); (· rfl); (· rfl); (· omega); (· simp only [sbe]; rfl)) | ((with_reducible apply u_ev); (· rfl); (· simp only [sbe]; rfl)) | ((with_reducible apply u_call); (· rfl); (· rfl); (· exact k20); (· rfl); (· simp only [sbe]; rfl)) | ((with_reducible apply u_jump); (· rfl); (· rfl)) | (with_reducible refine at_jump ?_) | (with_reducible refine over_jump (by decide) ?_) | (with_reducible refine kj rfl ?_) | (with_reducible exact u_ret rfl rfl))

theorem c6 (p : Pol) (ds : List Int) : FSpecW Try.prog 6 (.st bs) [p.d, Is ds] (B true) (.st bs) := by
 have k16 := known_spec bs
 refine ku6.W rfl ?_
 unfold u6
 simp only [ups_cons, ups_nil, List.cons_append, List.nil_append]
 cases hB : (((decide ((ds.length : Int) > 30) && decide ((ds.length : Int) ≤ 1000)) || decide ((ds.length : Int) > 1100)) || decide ((p.sh.length : Int) > 110))
 rotate_left
 ·repeat' (first | ((with_reducible apply nrm); (· simp only [sbe]; rfl)) | ((with_reducible apply u_iteT); (· rfl); (· exact hB)) | ((with_reducible apply u_chk); (· rfl)) | ((with_reducible apply u_lenL); (· rfl); (· exact lenL_map); (· simp only [sbe]; rfl)) | ((with_reducible apply u_ev); (· rfl); (· simp only [sbe]; rfl)) | ((with_reducible apply u_call); (· rfl); (· rfl); (· exact k16); (· rfl); (· simp only [sbe]; rfl)) | ((with_reducible apply u_or); (· rfl)) | ((with_reducible apply u_and); (· rfl)) | (with_reducible exact u_ret rfl rfl) | ((with_reducible intro hz); (try simp only [sbs] at hz)))
 ·have hB2 := hB
  simp only [Bool.or_eq_false_iff, decide_eq_false_iff_not] at hB2
  obtain ⟨⟨_, b1⟩, b2⟩ := hB2
  obtain ⟨X, Y, er, k36, hcase⟩ : ∃ (X Y : List Int) (er : Int), FSpecR Try.prog 36 (.st bs) [p.d, Is ds] (.tup [Is X, Is Y, I er]) ∧ ((setOk p ds = false ∧ X = [] ∧ Y = [] ∧ er = 2) ∨ (setOk p ds = true ∧ X = (setGo p.base ds p.limit).1 ∧ Y = spl (p.limit - (setGo p.base ds p.limit).2) p.sh ∧ er = 0)) := by
   have k := c36 (bs := bs) p ds (by omega) (by omega)
   cases hok : setOk p ds
   ·rw [hok, if_neg (by simp)] at k
    exact ⟨[], [], 2, k, .inl ⟨rfl, rfl, rfl, rfl⟩⟩
   ·rw [hok, if_pos rfl] at k
    exact ⟨_, _, 0, k, .inr ⟨rfl, rfl, rfl, rfl⟩⟩
  have k37 := c37 (bs := bs) p (by omega)
  have k38 := c38 (bs := bs) p ds (by omega)
  repeat' (first | ((with_reducible apply nrm); (· simp only [sbe]; rfl)) | ((with_reducible apply u_iteF); (· rfl); (· exact hB)) | ((with_reducible apply u_chk); (· rfl)) | ((with_reducible apply u_lenL); (· rfl); (· exact lenL_map); (· simp only [sbe]; rfl)) | ((with_reducible apply u_ev); (· rfl); (· simp only [sbe]; rfl)) | ((with_reducible apply u_call); (· rfl); (· rfl); (· first | exact k36 | exact k37); (· rfl); (· simp only [sbe]; rfl)) | ((with_reducible apply u_or); (· rfl)) | ((with_reducible apply u_and); (· rfl)) | (with_reducible refine u_join ?_) | (with_reducible exact u_ret rfl rfl) | ((with_reducible intro hz); (try simp only [sbs] at hz)))
  refine u_range (fun i => [B ((polOk p && decide ((ds.length : Int) ≤ 1000)) && (ds.take i).all fun x => inR x 0 1000000000), I i]) (fun _ => True) ds.length ?_ (fun _ => rfl) trivial (fun i hi _ R hR => ?_) (fun _ R => ?_)
  ·simp [evalAll, E.eval]
  ·have hr := hR trivial
   obtain ⟨x, hx⟩ : ∃ x, ds[i]? = some x := ⟨_, List.getElem?_eq_getElem hi⟩
   have ei : inR x 0 1000000000 = (decide (x ≥ 0) && decide (x ≤ 1000000000)) := by unfold inR; rfl
   rw [List.take_add_one, hx] at hr
   simp only [Option.toList_some, List.all_append, List.all_cons, List.all_nil, Bool.and_true] at hr
   rw [ei, ← Bool.and_assoc, ← Bool.and_assoc] at hr
   have hli : decide ((i : Int) < (ds.length : Int)) = true := by simp; omega
   repeat' (first | ((with_reducible apply nrm); (· simp only [sbe]; rfl)) | ((with_reducible apply u_iteT); (· rfl); (· exact hli)) | ((with_reducible apply u_eaddr); (· rfl); (· rfl); (· exact eaddr_lst hx rfl); (· simp only [sbe]; rfl)) | ((with_reducible apply u_lenL); (· rfl); (· exact lenL_map); (· simp only [sbe]; rfl)) | ((with_reducible apply u_inc); (· rfl); (· omega); (· simp only [sbe]; rfl)) | ((with_reducible apply u_ev); (· rfl); (· simp only [sbe]; rfl)) | ((with_reducible apply u_and); (· rfl)) | (with_reducible refine u_join ?_) | ((with_reducible apply u_jump); (· rfl); (· rfl)) | (with_reducible refine at_jump ?_) | (with_reducible refine kj rfl ?_) | (with_reducible exact u_ret rfl rfl) | ((with_reducible intro hz); (try simp only [sbs] at hz)))
   exact hr
  ·rw [List.take_length]
   have hfold : ((polOk p && decide ((ds.length : Int) ≤ 1000)) && ds.all fun x => inR x 0 1000000000) = setOk p ds := rfl
   rw [hfold]
   have hli : decide ((ds.length : Int) < (ds.length : Int)) = false := by simp
   rcases hcase with ⟨hok, rfl, rfl, rfl⟩ | ⟨hok, rfl, rfl, rfl⟩
   ·rw [hok]
    repeat' (first | ((with_reducible apply nrm); (· simp only [sbe]; rfl)) | ((with_reducible apply u_iteT); (· rfl); (· exact rfl)) | ((with_reducible apply u_iteF); (· rfl); (· exact hli)) | ((with_reducible apply u_chk); (· rfl)) | ((with_reducible apply u_lenL); (· rfl); (· exact lenL_map); (· simp only [sbe]; rfl)) | ((with_reducible apply u_ev); (· rfl); (· simp only [sbe]; rfl)) | ((with_reducible apply u_call); (· rfl); (· rfl); (· exact k16); (· rfl); (· simp only [sbe]; rfl)) | ((with_reducible apply u_and); (· rfl)) | ((with_reducible apply u_jump); (· rfl); (· rfl)) | (with_reducible refine at_jump ?_) | (with_reducible refine over_jump (by decide) ?_) | (with_reducible refine kj rfl ?_) | (with_reducible exact u_ret rfl rfl) | ((with_reducible intro hz); (try simp only [sbs] at hz)))
   ·have k38 := k38 hok
    have hok2 := hok
    unfold setOk polOk at hok2
    simp only [Bool.and_eq_true] at hok2
    obtain ⟨⟨⟨⟨o1, o2⟩, o3⟩, o4⟩, o5⟩ := hok2
    have p1 := inE o1
    have p2 := inE o2
    have hdm : ∀ d, d ∈ ds → 0 ≤ d ∧ d ≤ 1000000000 := fun d hd => inE (List.all_eq_true.1 o5 d hd)
    obtain ⟨s1, s2, s3, s4, s5⟩ := setGo_bd p1.1 p2.1 (fun d hd => (hdm d hd).1)
    have hsh := (shOk_iff _).1 o3
    obtain ⟨x, hx⟩ : ∃ x, x = (setGo p.base ds p.limit).1 := ⟨_, rfl⟩
    obtain ⟨lf, hlf⟩ : ∃ lf, lf = (setGo p.base ds p.limit).2 := ⟨_, rfl⟩
    rw [hok]
    simp only [← hx, ← hlf] at k36 k38 s1 s2 s3 s4 s5 ⊢
    have hys := spl_sum (a := p.limit - lf) hsh
    have hyl := spl_len (a := p.limit - lf) (sh := p.sh)
    have hyb : ∀ s, s ∈ spl (p.limit - lf) p.sh → 0 ≤ s ∧ s ≤ 1000000000001 := fun s hs => by
     obtain ⟨i, hi, rfl⟩ := List.mem_iff_getElem.1 hs
     have hi2 : i < p.sh.length := by rw [spl_len] at hi; exact hi
     have := spl_near hsh (a := p.limit - lf) (by omega) (List.getElem?_eq_getElem hi) (List.getElem?_eq_getElem hi2)
     omega
    obtain ⟨y, hy⟩ : ∃ y, y = spl (p.limit - lf) p.sh := ⟨_, rfl⟩
    rw [← hy] at k38 hys hyl hyb ⊢
    have hxb : ∀ s, s ∈ x → 0 ≤ s ∧ s ≤ 1000000000 := fun s hs => by
     obtain ⟨i, hi, rfl⟩ := List.mem_iff_getElem.1 hs
     have hi2 : i < ds.length := by omega
     have := s5 i _ _ (List.getElem?_eq_getElem hi) (List.getElem?_eq_getElem hi2)
     have := hdm _ (List.getElem_mem hi2)
     omega
    have kx := c19 (bs := bs) x x (by omega)
    have ky := c19 (bs := bs) y y (by omega)
    rw [decide_eq_true rfl] at kx ky
    have hf1 : (((0 : Int) != 0 || !true) || !true) = false := by simp
    repeat' (first | ((with_reducible apply nrm); (· simp only [sbe]; rfl)) | ((with_reducible apply u_iteF); (· rfl); (· first | exact hli | exact rfl)) | ((with_reducible apply u_chk); (· rfl)) | ((with_reducible apply u_lenL); (· rfl); (· exact lenL_map); (· simp only [sbe]; rfl)) | ((with_reducible apply u_ev); (· rfl); (· simp only [sbe]; rfl)) | ((with_reducible apply u_call); (· rfl); (· rfl); (· first | exact k38 | exact kx | exact ky); (· rfl); (· simp only [sbe]; rfl)) | ((with_reducible apply u_or); (· rfl)) | (with_reducible refine u_join ?_) | ((with_reducible apply u_jump); (· rfl); (· rfl)) | (with_reducible refine at_jump ?_) | (with_reducible refine over_jump (by decide) ?_) | (with_reducible refine kj rfl ?_) | (with_reducible exact u_ret rfl rfl) | ((with_reducible intro hz); (try simp only [sbs] at hz)))
    refine u_range (fun i => [I (x.take i).sum, I i]) (fun _ => True) x.length rfl (fun _ => rfl) trivial (fun i hi _ R2 hR2 => ?_) (fun _ R2 => ?_)
    ·have hr := hR2 trivial
     have hi2 : i < ds.length := by omega
     obtain ⟨s, hs⟩ : ∃ s, x[i]? = some s := ⟨_, List.getElem?_eq_getElem hi⟩
     obtain ⟨d, hd⟩ : ∃ d, ds[i]? = some d := ⟨_, List.getElem?_eq_getElem hi2⟩
     have hsd := s5 i s d hs hd
     have hsb := hxb s (List.mem_of_getElem? hs)
     have hS := sum_bd (B := 1000000000) (by omega) (l := x.take i) (fun y hy => hxb y (List.mem_of_mem_take hy))
     rw [List.length_take] at hS
     rw [List.take_add_one, hs] at hr
     simp only [Option.toList_some, List.sum_append, List.sum_cons, List.sum_nil, Int.add_zero] at hr
     have hl2 : decide ((i : Int) < (x.length : Int)) = true := by simp; omega
     have hf2 : (decide (s < 0) || decide (s > d)) = false := by
      rw [Bool.or_eq_false_iff, decide_eq_false_iff_not, decide_eq_false_iff_not]; omega
     repeat' (first | ((with_reducible apply nrm); (· simp only [sbe]; rfl)) | ((with_reducible apply u_iteT); (· rfl); (· exact hl2)) | ((with_reducible apply u_iteF); (· rfl); (· exact hf2)) | ((with_reducible apply u_chk); (· rfl)) | ((with_reducible apply u_eaddr); (· rfl); (· rfl); (· first | exact eaddr_lst hs rfl | exact eaddr_lst hd rfl); (· simp only [sbe]; rfl)) | ((with_reducible apply u_lenL); (· rfl); (· exact lenL_map); (· simp only [sbe]; rfl)) | ((with_reducible apply u_inc); (· rfl); (· omega); (· simp only [sbe]; rfl)) | ((with_reducible apply u_add); (· rfl); (· rfl); (· omega); (· simp only [sbe]; rfl)) | ((with_reducible apply u_ev); (· rfl); (· simp only [sbe]; rfl)) | ((with_reducible apply u_or); (· rfl)) | (with_reducible refine u_join ?_) | ((with_reducible apply u_jump); (· rfl); (· rfl)) | (with_reducible refine at_jump ?_) | (with_reducible refine kj rfl ?_) | (with_reducible exact u_ret rfl rfl) | ((with_reducible intro hz); (try simp only [sbs] at hz)))
     exact hr
    ·rw [List.take_length, s4, ← hys]
     have hl2 : decide ((x.length : Int) < (x.length : Int)) = false := by simp
     repeat' (first | ((with_reducible apply nrm); (· simp only [sbe]; rfl)) | ((with_reducible apply u_iteF); (· rfl); (· exact hl2)) | ((with_reducible apply u_lenL); (· rfl); (· exact lenL_map); (· simp only [sbe]; rfl)) | ((with_reducible apply u_ev); (· rfl); (· simp only [sbe]; rfl)) | (with_reducible refine u_join ?_) | ((with_reducible apply u_jump); (· rfl); (· rfl)) | (with_reducible refine at_jump ?_) | (with_reducible refine over_jump (by decide) ?_) | (with_reducible refine kj rfl ?_))
     refine u_range (fun i => [I (y.sum - (y.take i).sum), I i]) (fun _ => True) y.length ?_ (fun _ => rfl) trivial (fun i hi _ R3 hR3 => ?_) (fun _ R3 => ?_)
     ·simp [evalAll, E.eval]
     ·have hr := hR3 trivial
      obtain ⟨s, hs⟩ : ∃ s, y[i]? = some s := ⟨_, List.getElem?_eq_getElem hi⟩
      have hsb := hyb s (List.mem_of_getElem? hs)
      have hS := sum_bd (B := 1000000000001) (by omega) (l := y.take i) (fun z hz => hyb z (List.mem_of_mem_take hz))
      rw [List.length_take] at hS
      have hY := sum_bd (B := 1000000000001) (by omega) (l := y) hyb
      rw [List.take_add_one, hs] at hr
      simp only [Option.toList_some, List.sum_append, List.sum_cons, List.sum_nil, Int.add_zero] at hr
      have hl3 : decide ((i : Int) < (y.length : Int)) = true := by simp; omega
      repeat' (first | ((with_reducible apply nrm); (· simp only [sbe]; rfl)) | ((with_reducible apply u_iteT); (· rfl); (· exact hl3)) | ((with_reducible apply u_eaddr); (· rfl); (· rfl); (· exact eaddr_lst hs rfl); (· simp only [sbe]; rfl)) | ((with_reducible apply u_lenL); (· rfl); (· exact lenL_map); (· simp only [sbe]; rfl)) | ((with_reducible apply u_inc); (· rfl); (· omega); (· simp only [sbe]; rfl)) | ((with_reducible apply u_sub); (· rfl); (· rfl); (· omega); (· simp only [sbe]; rfl)) | ((with_reducible apply u_ev); (· rfl); (· simp only [sbe]; rfl)) | (with_reducible refine u_join ?_) | ((with_reducible apply u_jump); (· rfl); (· rfl)) | (with_reducible refine at_jump ?_) | (with_reducible refine kj rfl ?_))
      rw [show y.sum - ((y.take i).sum + s) = y.sum - (y.take i).sum - s by omega] at hr
      exact hr
     ·rw [List.take_length, Int.sub_self]
      have hl3 : decide ((y.length : Int) < (y.length : Int)) = false := by simp
      repeat' (first | ((with_reducible apply nrm); (· simp only [sbe]; rfl)) | ((with_reducible apply u_iteF); (· rfl); (· exact hl3)) | ((with_reducible apply u_lenL); (· rfl); (· exact lenL_map); (· simp only [sbe]; rfl)) | ((with_reducible apply u_ev); (· rfl); (· simp only [sbe]; rfl)) | ((with_reducible apply u_call); (· rfl); (· rfl); (· exact k16); (· rfl); (· simp only [sbe]; rfl)) | ((with_reducible apply u_and); (· rfl)) | ((with_reducible apply u_jump); (· rfl); (· rfl)) | (with_reducible refine at_jump ?_) | (with_reducible refine over_jump (by decide) ?_) | (with_reducible refine kj rfl ?_) | (with_reducible exact u_ret rfl rfl) | ((with_reducible intro hz); (try simp only [sbs] at hz)))

def shPol : Sh := .st [.int .i64, .int .i64, .sl (.int .i64)]

def Pol.Ok (_ : Pol) : Prop := True

theorem argPol {x : D} (h : ArgSh shPol x) : ∃ p : Pol, x = p.d ∧ p.Ok := by
 obtain ⟨cs, rfl, hh⟩ := h.1 rfl
 simp only [shPol, OfSh, OfAll] at hh
 have cv : ∀ {ds : List D}, (∃ n : Int, ds = [.v (.int .i64 n)] ∧ IntKind.i64.min ≤ n ∧ n ≤ IntKind.i64.max) → ∃ n, ds = [I n] ∧ Ap.i64 n := fun h => ofI (by simpa only [OfSh] using h)
 obtain ⟨_, _, rfl, h1, _, _, rfl, h2, _, _, rfl, h3, rfl⟩ := hh
 obtain ⟨a, rfl, b1⟩ := cv h1
 obtain ⟨b, rfl, b2⟩ := cv h2
 obtain ⟨xs, hx, b3, b4⟩ := ofSl (by simpa only [OfSh] using h3)
 subst hx
 exact ⟨⟨a, b, xs⟩, rfl, trivial⟩

end Go.Am.Ct
