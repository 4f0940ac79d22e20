/-
  Several texts, one behind the other.
-/
import Derived.Test.YtnenlnmfoocpdaaApGr1
import Derived.Test.YtnenlnmfoocpdaaAmSort2
import Derived.Shelf.Sort.Plain
import Derived.Ground.Names2Prog
import Derived.Shelf.Slices.CompactI
import Derived.Shelf.Slices.In.SortNone
import Derived.Test.YtnenlnmfoocpdaaProg
import Derived.Test.YtnenlnmfoocpdaaApKilltoApFee3
import Derived.Test.YtnenlnmfoocpdaaApU4toApCourt4
set_option linter.unusedSimpArgs false
set_option linter.unusedVariables false
/-
 The specification's Grounds; both are the same.
-/
namespace Go.Am.Ct
open Go.Proofs Go.Am.Ap Go.Am.Srt
set_option maxRecDepth 100000
set_option maxHeartbeats 4000000

variable {bs : List D} {j : Nat} {c : Cod} {l : List Akt} {a : Akt} {F : Nat → Prop}

attribute [local irreducible] inR

theorem c19s (xs ys : List Int) {g : D} (hg : SlOf bs 3 1 (fun x : Int => [I x]) g xs) (hx : xs.length ≤ 1000000000) : FSpecR Try.prog 19 (.st bs) [g, Is ys] (B (decide (xs = ys))) := by
 refine ku19.R rfl (by rcases hg with ⟨_, rfl⟩ | ⟨_, rfl, _⟩ <;> rfl) ?_
 unfold u19
 simp only [ups_cons, ups_nil, List.cons_append, List.nil_append]
 repeat' (first | ((with_reducible apply u_lenL); (· rfl); (· exact hg.len); (· simp only [sbe]; rfl)) | ((with_reducible apply u_lenL); (· rfl); (· exact lenL_map); (· simp only [sbe]; rfl)) | ((with_reducible apply u_ev); (· rfl); (· simp only [sbe]; rfl)) | (with_reducible refine u_join ?_) | ((with_reducible apply u_ite); (· rfl); all_goals (intro hz; (try simp only [sbs] at hz); first | (exact absurd hz (by decide)) | (exfalso; omega) | skip)) | ((with_reducible apply u_ret); (· rfl); first | exact rfl | (refine retB ?_) | (refine retI ?_) | (refine retD ?_)))
 ·symm
  simp
  intro e
  rw [e] at hz
  simp at hz
 ·have hz : xs.length = ys.length := by omega
  refine u_range (fun i => [I i]) (fun i => ∀ k, k < i → xs[k]? = ys[k]?) xs.length rfl (fun _ => rfl) (fun k h => absurd h (Nat.not_lt_zero _)) (fun i hi hJ R hR => ?_) (fun hJ R => ?_)
  ·have hi' : i < ys.length := by omega
   obtain ⟨b, rfl, hb⟩ := hg.get hi
   repeat' (first | ((with_reducible apply nrm); (· simp only [sbe]; rfl)) | ((with_reducible apply u_ld); (· rfl); (· rfl); (· exact ld_el0 hb (fun _ => rfl) (List.getElem?_eq_getElem hi) rfl); (· simp only [sbe]; rfl)) | ((with_reducible apply u_eaddr); (· rfl); (· rfl); (· first | exact eaddr_sl hi | exact eaddr_get hi' rfl); (· simp only [sbe]; rfl)) | ((with_reducible apply u_lenL); (· rfl); (· exact hg.len); (· simp only [sbe]; rfl)) | ((with_reducible apply u_inc); (· rfl); (· omega); (· simp only [sbe]; rfl)) | ((with_reducible apply u_ev); (· rfl); (· simp only [sbe]; rfl)) | (with_reducible refine u_join ?_) | ((with_reducible apply u_jump); (· rfl); (· rfl)) | (with_reducible refine at_jump ?_) | (with_reducible refine kj rfl ?_) | ((with_reducible apply u_ite); (· rfl); all_goals (intro hz; (try simp only [sbs] at hz); first | (exact absurd hz (by decide)) | (exfalso; omega) | skip)) | ((with_reducible apply u_ret); (· rfl); first | exact rfl | (refine retB ?_) | (refine retI ?_) | (refine retD ?_)))
   ·symm
    simp
    intro e
    subst e
    exact hz rfl
   ·refine hR fun k hk => ?_
    rcases Nat.lt_or_ge k i with h3 | h3
    ·exact hJ k h3
    ·have e : k = i := by omega
     subst e
     rw [List.getElem?_eq_getElem hi, List.getElem?_eq_getElem hi', hz]
  ·repeat' (first | ((with_reducible apply nrm); (· simp only [sbe]; rfl)) | ((with_reducible apply u_lenL); (· rfl); (· exact hg.len); (· simp only [sbe]; rfl)) | ((with_reducible apply u_ev); (· rfl); (· simp only [sbe]; rfl)) | ((with_reducible apply u_jump); (· rfl); (· rfl)) | (with_reducible refine at_jump ?_) | (with_reducible refine over_jump (by decide) ?_) | (with_reducible refine kj rfl ?_) | ((with_reducible apply u_ite); (· rfl); all_goals (intro hz; (try simp only [sbs] at hz); first | (exact absurd hz (by decide)) | (exfalso; omega) | skip)) | ((with_reducible apply u_ret); (· rfl); first | exact rfl | (refine retB ?_) | (refine retI ?_) | (refine retD ?_)))
   symm
   simp
   refine List.ext_getElem? fun k => ?_
   rcases Nat.lt_or_ge k xs.length with h | h
   ·exact hJ k h
   ·rw [List.getElem?_eq_none h, List.getElem?_eq_none (by omega)]

def touch (l : List Akt) (i k : Nat) : Bool := (((i : Int) == (pk l k : Int)) || (((nth l i).kind != 1 && (nth l i).kind != 2) && ((nth l i).cse == (k : Int)))) || ((i : Int) == fi (isPub (nth l (pk l k)).paper) l)
def metK (c : Cod) (l : List Akt) (car m : Int) (i k : Nat) : Bool := agB l car k && (fB c l k m && touch l i k)
def metB (c : Cod) (l : List Akt) (car m : Int) (i : Nat) : Bool := decide ((nth l i).minute ≤ m) && (List.range (pro l).length).any (metK c l car m i)
def gR (c : Cod) (l : List Akt) (car m : Int) : List Nat := (List.range l.length).filter (metB c l car m)

theorem c50 (hI : Inv c l) (car m : Int) (h0 : 0 ≤ m) (hm : m ≤ MM) : FSpecR Try.prog 50 (.st bs) [c.d, Rec l, I car, I m] (Ix (gR c l car m)) := by
 have hlen := hI.len
 have hL : l.length ≤ 1000000 := by omega
 have hpl : (pro l).length ≤ l.length := by unfold pro; have := prot_len l l.length; omega
 have hpe : (prot l l.length).length = (pro l).length := rfl
 have hb : i64 m := by unfold i64 MM at *; omega
 refine ku50.R rfl rfl ?_
 unfold u50
 simp only [ups_cons, ups_nil, List.cons_append, List.nil_append]
 repeat' (first | ((with_reducible apply u_chk); (· rfl)) | ((with_reducible apply u_call); (· rfl); (· rfl); (· exact c27 hL); (· rfl); (· simp only [sbe]; rfl)) | (with_reducible refine u_join ?_))
 refine u_list (List.range l.length) (fun (acc : List Nat) i => [Ix acc, I i]) (fun r acc => acc ++ r.filter (metB c l car m) = gR c l car m ∧ acc.length + r.length ≤ 2000) [] rfl (fun _ _ => rfl) ⟨rfl, by simp; omega⟩ (fun i x acc hx hlt hG R hR => ?_) (fun acc hG R => ?_)
 ·obtain ⟨hlt2, rfl⟩ : i < l.length ∧ x = i := by
   rw [List.getElem?_range (by simpa using hlt)] at hx
   exact ⟨by simpa using hlt, by simpa using hx.symm⟩
  obtain ⟨f1, f2⟩ := hG
  rw [List.filter_cons] at f1
  simp only [List.length_cons] at f2
  have hn := nth_get hlt2
  have hli : decide ((x : Int) < (l.length : Int)) = true := by simp; omega
  have ha1 := app1_lst (xs := acc) (enc := In) (a := x) (sz := 1) (bytes := 8) (by omega) (by unfold maxLen; omega) (fun _ => rfl)
  repeat' (first | ((with_reducible apply nrm); (· simp only [sbe]; rfl)) | ((with_reducible apply u_iteT); (· rfl); (· exact hli)) | ((with_reducible apply u_chk); (· rfl)) | ((with_reducible apply u_eaddr); (· rfl); (· rfl); (· exact eaddr_get hlt2 rfl); (· simp only [sbe]; rfl)) | ((with_reducible apply u_lenL); (· rfl); (· exact lenL_map); (· simp only [sbe]; rfl)) | ((with_reducible apply u_ev); (· rfl); (· simp only [sbe]; rfl)) | (with_reducible refine u_join ?_))
  refine loop_exitK (fun ds => ∃ d1 d2 d3 d4 d5 d6 : D, ds = [B (metB c l car m x), d1, d2, d3, d4, d5, d6]) ?_ ?_
  ·by_cases hmx : l[x].minute ≤ m
   ·have hmet : metB c l car m x = (List.range (pro l).length).any (metK c l car m x) := by unfold metB; rw [hn, decide_eq_true hmx, Bool.true_and]
    refine u_list (List.range (pro l).length) (fun (b : Bool) i => [B b, I i]) (fun r b => (b || r.any (metK c l car m x)) = metB c l car m x) false rfl (fun _ _ => rfl) (by rw [hmet]; rfl) (fun i k b hk hlt3 hG R2 hR2 => ?_) (fun b hG R2 => ?_)
    ·obtain ⟨hlt4, rfl⟩ : i < (pro l).length ∧ k = i := by
      rw [List.getElem?_range (by simpa using hlt3)] at hk
      exact ⟨by simpa using hlt3, by simpa using hk.symm⟩
     rw [List.any_cons, ← Bool.or_assoc] at hG
     have hpx := pk_eaddr (l := l) (k := (k : Int)) (by omega) (by omega)
     have h78 := c78 (bs := bs) hI (k : Int) m hb hm
     have h58 := c58 (bs := bs) hL (nth l (pk l k)).paper
     have hc1 : (decide ((k : Int) < ((prot l l.length).length : Int)) && decide (l[x].minute ≤ m)) = true := by rw [hpe]; simp; omega
     cases hag : agB l car k
     ·have hne : ((nth l (pk l k)).against != car) = true := by unfold agB at hag; simpa using hag
      have e : metK c l car m x k = false := by unfold metK; rw [hag]; rfl
      rw [e, Bool.or_false] at hG
      repeat' (first | ((with_reducible apply nrm); (· simp only [sbe]; rfl)) | ((with_reducible apply u_iteT); (· rfl); (· first | exact hc1 | exact hne)) | ((with_reducible apply u_chk); (· rfl)) | ((with_reducible apply u_eaddr); (· rfl); (· rfl); (· first | exact hpx.1 | exact hpx.2); (· simp only [sbe]; rfl)) | ((with_reducible apply u_lenL); (· rfl); (· exact lenL_map); (· simp only [sbe]; rfl)) | ((with_reducible apply u_inc); (· rfl); (· omega); (· simp only [sbe]; rfl)) | ((with_reducible apply u_ev); (· rfl); (· simp only [sbe]; rfl)) | ((with_reducible apply u_and); (· rfl)) | (with_reducible refine u_join ?_) | ((with_reducible apply u_jump); (· rfl); (· rfl)) | (with_reducible refine at_jump ?_) | (with_reducible refine kj rfl ?_) | (with_reducible exact u_ret rfl rfl) | ((with_reducible intro hz); (try simp only [sbs] at hz)))
      exact hR2 b hG
     ·have hne : ((nth l (pk l k)).against != car) = false := by unfold agB at hag; simpa using hag
      cases hfb : fB c l k m
      ·rw [hfb] at h78
       have e : metK c l car m x k = false := by unfold metK; rw [hfb]; simp
       rw [e, Bool.or_false] at hG
       repeat' (first | ((with_reducible apply nrm); (· simp only [sbe]; rfl)) | ((with_reducible apply u_iteT); (· rfl); (· first | exact hc1 | exact rfl)) | ((with_reducible apply u_iteF); (· rfl); (· exact hne)) | ((with_reducible apply u_chk); (· rfl)) | ((with_reducible apply u_eaddr); (· rfl); (· rfl); (· first | exact hpx.1 | exact hpx.2); (· simp only [sbe]; rfl)) | ((with_reducible apply u_lenL); (· rfl); (· exact lenL_map); (· simp only [sbe]; rfl)) | ((with_reducible apply u_inc); (· rfl); (· omega); (· simp only [sbe]; rfl)) | ((with_reducible apply u_ev); (· rfl); (· simp only [sbe]; rfl)) | ((with_reducible apply u_call); (· rfl); (· rfl); (· exact h78); (· rfl); (· simp only [sbe]; rfl)) | ((with_reducible apply u_and); (· rfl)) | (with_reducible refine u_join ?_) | ((with_reducible apply u_jump); (· rfl); (· rfl)) | (with_reducible refine at_jump ?_) | (with_reducible refine kj rfl ?_) | (with_reducible exact u_ret rfl rfl) | ((with_reducible intro hz); (try simp only [sbs] at hz)))
       exact hR2 b hG
      ·rw [hfb] at h78
       have e : metK c l car m x k = touch l x k := by unfold metK; rw [hag, hfb]; rfl
       rw [e] at hG
       repeat' (first | ((with_reducible apply nrm); (· simp only [sbe]; rfl)) | ((with_reducible apply u_iteT); (· rfl); (· exact hc1)) | ((with_reducible apply u_iteF); (· rfl); (· first | exact hne | exact rfl)) | ((with_reducible apply u_chk); (· rfl)) | ((with_reducible apply u_eaddr); (· rfl); (· rfl); (· first | exact hpx.1 | exact hpx.2); (· simp only [sbe]; rfl)) | ((with_reducible apply u_lenL); (· rfl); (· exact lenL_map); (· simp only [sbe]; rfl)) | ((with_reducible apply u_inc); (· rfl); (· omega); (· simp only [sbe]; rfl)) | ((with_reducible apply u_sel); (· rfl); (· rfl); (· rfl); (· simp only [sbe, List.zipWith_cons_cons, List.zipWith_nil_left, selD]; rfl)) | ((with_reducible apply u_ev); (· rfl); (· simp only [sbe]; rfl)) | ((with_reducible apply u_call); (· rfl); (· rfl); (· first | exact h78 | exact h58); (· rfl); (· simp only [sbe]; rfl)) | ((with_reducible apply u_or); (· rfl)) | ((with_reducible apply u_and); (· rfl)) | (with_reducible refine u_join ?_) | ((with_reducible apply u_jump); (· rfl); (· rfl)) | (with_reducible refine at_jump ?_) | (with_reducible refine kj rfl ?_) | (with_reducible exact u_ret rfl rfl) | ((with_reducible intro hz); (try simp only [sbs] at hz)))
       refine hR2 _ (Eq.trans ?_ hG)
       unfold touch
       rw [hn]
       congr 1
       cases b <;> cases ((x : Int) == (pk l k : Int)) <;> simp
    ·rw [List.any_nil, Bool.or_false] at hG
     subst hG
     have hc1 : (decide (((List.range (pro l).length).length : Int) < ((prot l l.length).length : Int)) && decide (l[x].minute ≤ m)) = false := by rw [hpe]; simp
     repeat' (first | ((with_reducible apply nrm); (· simp only [sbe]; rfl)) | ((with_reducible apply u_iteF); (· rfl); (· exact hc1)) | ((with_reducible apply u_chk); (· rfl)) | ((with_reducible apply u_lenL); (· rfl); (· exact lenL_map); (· simp only [sbe]; rfl)) | ((with_reducible apply u_ev); (· rfl); (· simp only [sbe]; rfl)) | ((with_reducible apply u_and); (· rfl)) | ((with_reducible apply u_jump); (· rfl); (· rfl)) | (with_reducible refine at_jump ?_) | (with_reducible refine over_jump (by decide) ?_) | (with_reducible exact u_ret rfl rfl) | ((with_reducible intro hz); (try simp only [sbs] at hz)))
     exact ⟨_, _, _, _, _, _, rfl⟩
   ·have hmet : metB c l car m x = false := by unfold metB; rw [hn, decide_eq_false hmx, Bool.false_and]
    rw [hmet]
    refine u_range (fun i => [B false, I i]) (fun _ => True) 0 rfl (fun _ => rfl) trivial (fun i hi _ R2 hR2 => absurd hi (Nat.not_lt_zero _)) (fun _ R2 => ?_)
    have hc1 : (decide (((0 : Nat) : Int) < ((prot l l.length).length : Int)) && decide (l[x].minute ≤ m)) = false := by rw [decide_eq_false hmx, Bool.and_false]
    repeat' (first | ((with_reducible apply nrm); (· simp only [sbe]; rfl)) | ((with_reducible apply u_iteF); (· rfl); (· exact hc1)) | ((with_reducible apply u_chk); (· rfl)) | ((with_reducible apply u_lenL); (· rfl); (· exact lenL_map); (· simp only [sbe]; rfl)) | ((with_reducible apply u_ev); (· rfl); (· simp only [sbe]; rfl)) | ((with_reducible apply u_and); (· rfl)) | ((with_reducible apply u_jump); (· rfl); (· rfl)) | (with_reducible refine at_jump ?_) | (with_reducible refine over_jump (by decide) ?_) | (with_reducible exact u_ret rfl rfl) | ((with_reducible intro hz); (try simp only [sbs] at hz)))
    exact ⟨_, _, _, _, _, _, rfl⟩
  ·rintro _ ⟨d1, d2, d3, d4, d5, d6, rfl⟩
   refine kj rfl ?_
   cases hmb : metB c l car m x
   ·rw [hmb] at f1
    repeat' (first | ((with_reducible apply nrm); (· simp only [sbe]; rfl)) | ((with_reducible apply u_iteF); (· rfl); (· exact rfl)) | ((with_reducible apply u_inc); (· rfl); (· omega); (· simp only [sbe]; rfl)) | (with_reducible refine u_join ?_) | ((with_reducible apply u_jump); (· rfl); (· rfl)) | (with_reducible refine at_jump ?_) | (with_reducible refine kj rfl ?_))
    exact hR acc ⟨f1, by omega⟩
   ·rw [hmb] at f1
    repeat' (first | ((with_reducible apply nrm); (· simp only [sbe]; rfl)) | ((with_reducible apply u_iteT); (· rfl); (· exact rfl)) | ((with_reducible apply u_app); (· rfl); (· rfl); (· exact ha1); (· simp only [sbe]; rfl)) | ((with_reducible apply u_inc); (· rfl); (· omega); (· simp only [sbe]; rfl)) | ((with_reducible apply u_ev); (· rfl); (· simp only [sbe]; rfl)) | (with_reducible refine u_join ?_) | ((with_reducible apply u_jump); (· rfl); (· rfl)) | (with_reducible refine at_jump ?_) | (with_reducible refine kj rfl ?_))
    exact hR (acc ++ [x]) ⟨by rw [← f1]; simp, by rw [List.length_append, List.length_cons, List.length_nil]; omega⟩
 ·obtain ⟨f1, f2⟩ := hG
  have f1' : acc = gR c l car m := by rw [← f1]; simp
  subst f1'
  rw [List.length_range]
  have hli : decide ((l.length : Int) < (l.length : Int)) = false := by simp
  repeat' (first | ((with_reducible apply nrm); (· simp only [sbe]; rfl)) | ((with_reducible apply u_iteF); (· rfl); (· exact hli)) | ((with_reducible apply u_lenL); (· rfl); (· exact lenL_map); (· simp only [sbe]; rfl)) | ((with_reducible apply u_ev); (· rfl); (· simp only [sbe]; rfl)) | ((with_reducible apply u_jump); (· rfl); (· rfl)) | (with_reducible refine at_jump ?_) | (with_reducible refine over_jump (by decide) ?_) | (with_reducible refine kj rfl ?_) | (with_reducible exact u_ret rfl rfl))

theorem pub_before (hA : Acc c l) {p : Nat} (hp : p < l.length) (h2 : (nth l p).kind = 2) : ∃ i : Nat, fi (isPub (nth l p).paper) l = i ∧ i < p := by
 have g := (good_of (hA p hp)).prt h2
 rcases fi_cases (isPub (nth l p).paper) (l.take p) with ⟨h, _⟩ | ⟨i, hi, h, hP, hn⟩
 ·omega
 ·have hi2 : i < p := by simp at hi; omega
  refine ⟨i, fi_at (by omega) ?_ (fun k hk => ?_), hi2⟩
  ·rw [List.getElem_take] at hP
   exact hP
  ·have := hn k hk
   rw [List.getElem_take] at this
   exact this

theorem mem_opt {x : Int} {i : Nat} : i ∈ opt x ↔ x = i := by
 unfold opt
 split
 ·rename_i h
  simp
  omega
 ·rename_i h
  simp
  omega

theorem gl_mem (hA : Acc c l) {car m : Int} (hm : m ≤ MM) (x : Int) : x ∈ (gR c l car m).map (fun i : Nat => (i : Int)) ↔ x ∈ gl c l car m := by
 have hI := inv_of l hA
 have hpkn : ∀ k, k < (pro l).length → (nth l (pk l k)).kind = 2 := fun k hk => by rw [pk_get hk]; exact pro_kind (List.getElem_mem _)
 constructor
 ·intro hx
  obtain ⟨i, hi, rfl⟩ := List.mem_map.1 hx
  unfold gR at hi
  rw [List.mem_filter, List.mem_range] at hi
  obtain ⟨hil, hi⟩ := hi
  unfold metB at hi
  rw [Bool.and_eq_true, decide_eq_true_eq, List.any_eq_true] at hi
  obtain ⟨him, k, hk, hi⟩ := hi
  rw [List.mem_range] at hk
  unfold metK at hi
  simp only [Bool.and_eq_true] at hi
  obtain ⟨h1, h2, h3⟩ := hi
  unfold fB at h2
  rw [Bool.and_eq_true] at h2
  have hth : (nth l (pk l k)).minute ≤ m := by
   rcases Decidable.em ((nth l (pk l k)).minute ≤ m) with h | h
   ·exact h
   ·rw [there_no' h] at h2; cases h2.1
  have hka : k ∈ ags l car m := by
   unfold ags
   rw [List.mem_filter, List.mem_range]
   refine ⟨hk, ?_⟩
   unfold agP
   unfold agB at h1
   rw [h1, decide_eq_true hth]
   rfl
  unfold gl
  rw [List.mem_flatMap]
  refine ⟨k, hka, ?_⟩
  unfold gnums
  rw [if_pos h2.2, List.mem_append]
  unfold touch at h3
  simp only [Bool.or_eq_true, Bool.and_eq_true, beq_iff_eq, bne_iff_ne, ne_eq] at h3
  rcases h3 with (h3 | h3) | h3
  ·left
   have e : i = pk l k := by omega
   rw [List.mem_map]
   refine ⟨i, ?_, rfl⟩
   unfold lowI
   rw [List.mem_filter]
   exact ⟨by rw [e]; simp [idxOf], by simpa using him⟩
  ·left
   have hok := hI.ok i hil
   have hkd := actOk_kind hok
   have hu := hI.uniq i hil (by omega)
   rw [h3.2] at hu
   rw [List.mem_map]
   refine ⟨i, ?_, rfl⟩
   unfold lowI
   rw [List.mem_filter]
   refine ⟨?_, by simpa using him⟩
   have hkd2 : (nth l i).kind = 3 ∨ (nth l i).kind = 4 ∨ (nth l i).kind = 5 ∨ (nth l i).kind = 6 := by omega
   unfold idxOf
   simp only [List.mem_cons, List.mem_append, mem_opt]
   rcases hkd2 with e | e | e | e <;> rw [e] at hu
   ·exact .inr (.inl hu.symm)
   ·exact .inr (.inr (.inl hu.symm))
   ·exact .inr (.inr (.inr (.inl hu.symm)))
   ·exact .inr (.inr (.inr (.inr hu.symm)))
  ·right
   simp [h3]
 ·intro hx
  unfold gl at hx
  rw [List.mem_flatMap] at hx
  obtain ⟨k, hk, hx⟩ := hx
  obtain ⟨hk1, hk2, hk3⟩ := ags_mem hk
  have hpl := pk_lt hk1
  have h2 := hpkn k hk1
  unfold gnums at hx
  split at hx
  ·rename_i hfr
   have hagb : agB l car k = true := by unfold agB; simpa using hk3
   have hfb : fB c l k m = true := by unfold fB; rw [there_yes' hk1 hk2, hfr]; rfl
   have fin : ∀ i : Nat, i < l.length → (nth l i).minute ≤ m → touch l i k = true → (i : Int) ∈ (gR c l car m).map (fun i : Nat => (i : Int)) := fun i hil him ht => by
    rw [List.mem_map]
    refine ⟨i, ?_, rfl⟩
    unfold gR
    rw [List.mem_filter, List.mem_range]
    refine ⟨hil, ?_⟩
    unfold metB
    rw [decide_eq_true him, Bool.true_and, List.any_eq_true]
    refine ⟨k, List.mem_range.2 hk1, ?_⟩
    unfold metK
    rw [hagb, hfb, ht]
    rfl
   rcases List.mem_append.1 hx with hx | hx
   ·obtain ⟨i, hi, rfl⟩ := List.mem_map.1 hx
    unfold lowI at hi
    rw [List.mem_filter, decide_eq_true_eq] at hi
    obtain ⟨hi, him⟩ := hi
    have hp : (pro l)[k]? = some (pk l k) := by rw [pk_get hk1]; exact List.getElem?_eq_getElem hk1
    have hil := idx_lt hp i hi
    refine fin i hil him ?_
    have own : ∀ kd : Int, 3 ≤ kd → rlast l kd k MM = i → touch l i k = true := fun kd h3 hr => by
     obtain ⟨i2, e1, _, e2, e3⟩ := at_of (show 0 ≤ rlast l kd k MM by omega)
     have : i2 = i := by omega
     subst this
     unfold touch
     have q1 : ((nth l i2).kind != 1) = true := by simp; omega
     have q2 : ((nth l i2).kind != 2) = true := by simp; omega
     have q3 : ((nth l i2).cse == (k : Int)) = true := by simp [e3]
     rw [q1, q2, q3]
     simp
    unfold idxOf at hi
    simp only [List.mem_cons, List.mem_append, mem_opt] at hi
    rcases hi with rfl | hi | hi | hi | hi
    ·unfold touch; simp
    ·exact own 3 (by omega) hi
    ·exact own 4 (by omega) hi
    ·exact own 5 (by omega) hi
    ·exact own 6 (by omega) hi
   ·obtain ⟨i, e, hip⟩ := pub_before hA hpl h2
    simp at hx
    rw [e] at hx
    subst hx
    refine fin i (by omega) ?_ ?_
    ·have := hI.sorted i (pk l k) (by omega) hpl
     omega
    ·unfold touch
     rw [e]
     simp
  ·cases hx

theorem gr_eq (hA : Acc c l) {car m : Int} (hm : m ≤ MM) : uniq (gl c l car m) = (gR c l car m).map fun i : Nat => (i : Int) := by
 refine uniq_eq ?_ fun x => gl_mem hA hm x
 rw [List.pairwise_map]
 unfold gR
 exact (List.pairwise_lt_range.filter _).imp fun h => by omega

end Go.Am.Ct

/-
 The library's Sort and Compact at this program's numbers (written by the kit's lay-plain).
-/
namespace Go.Proofs
open Go.Shelf
def Try.lays189_ren : Go.Shelf.Ren := ⟨fun | 189 => 88 | 125 => 107 | 257 => 106 | 128 => 120 | 129 => 121 | 294 => 111 | 295 => 112 | 296 => 113 | 297 => 114 | 298 => 115 | 299 => 116 | 216 => 117 | 300 => 118 | 301 => 119 | 328 => 123 | 329 => 124 | 330 => 125 | 331 => 126 | 332 => 127 | 215 => 104 | 343 => 130 | n => n, fun | 28 => 22 | 3 => 3 | 46 => 147 | 0 => 0 | 51 => 158 | 53 => 160 | 4 => 4 | 183 => 151 | 182 => 150 | 131 => 59 | 5 => 5 | 9 => 9 | 218 => 162 | 222 => 166 | 228 => 170 | 229 => 171 | n => n, fun | n => n⟩
theorem Try.lays189 : Go.Proofs.Lays.n189 Try.prog Try.lays189_ren := {
 mixed := by kernel_rfl
 f125 := Try.func107.trans (congrArg some (by kernel_rfl))
 f128 := Try.func120.trans (congrArg some (by kernel_rfl))
 f129 := Try.func121.trans (congrArg some (by kernel_rfl))
 f189 := Try.func88.trans (congrArg some (by kernel_rfl))
 f215 := Try.func104.trans (congrArg some (by kernel_rfl))
 f216 := Try.func117.trans (congrArg some (by kernel_rfl))
 f257 := Try.func106.trans (congrArg some (by kernel_rfl))
 f294 := Try.func111.trans (congrArg some (by kernel_rfl))
 f295 := Try.func112.trans (congrArg some (by kernel_rfl))
 f296 := Try.func113.trans (congrArg some (by kernel_rfl))
 f297 := Try.func114.trans (congrArg some (by kernel_rfl))
 f298 := Try.func115.trans (congrArg some (by kernel_rfl))
 f299 := Try.func116.trans (congrArg some (by kernel_rfl))
 f300 := Try.func118.trans (congrArg some (by kernel_rfl))
 f301 := Try.func119.trans (congrArg some (by kernel_rfl))
 f328 := Try.func123.trans (congrArg some (by kernel_rfl))
 f329 := Try.func124.trans (congrArg some (by kernel_rfl))
 f330 := Try.func125.trans (congrArg some (by kernel_rfl))
 f331 := Try.func126.trans (congrArg some (by kernel_rfl))
 f332 := Try.func127.trans (congrArg some (by kernel_rfl))
 f343 := Try.func130.trans (congrArg some (by kernel_rfl))
 t0 := Try.underlying0
 a0 := Try.isAgg0
 z0 := Try.sizeOf0
 v0 := Try.zeroValue0
 t3 := Try.underlying3
 a3 := Try.isAgg3
 z3 := Try.sizeOf3
 v3 := Try.zeroValue3
 t4 := Try.underlying4
 a4 := Try.isAgg4
 z4 := Try.sizeOf4
 v4 := Try.zeroValue4
 t5 := Try.underlying5
 a5 := Try.isAgg5
 z5 := Try.sizeOf5
 v5 := Try.zeroValue5
 t9 := Try.underlying9
 a9 := Try.isAgg9
 z9 := Try.sizeOf9
 v9 := Try.zeroValue9
 t28 := Try.underlying22
 a28 := Try.isAgg22
 z28 := Try.sizeOf22
 v28 := Try.zeroValue22
 t46 := Try.underlying147
 a46 := Try.isAgg147
 z46 := Try.sizeOf147
 v46 := Try.zeroValue147
 t51 := Try.underlying158
 a51 := Try.isAgg158
 z51 := Try.sizeOf158
 v51 := Try.zeroValue158
 t53 := Try.underlying160
 a53 := Try.isAgg160
 z53 := Try.sizeOf160
 v53 := Try.zeroValue160
 t131 := Try.underlying59
 a131 := Try.isAgg59
 z131 := Try.sizeOf59
 v131 := Try.zeroValue59
 t182 := Try.underlying150
 a182 := Try.isAgg150
 z182 := Try.sizeOf150
 v182 := Try.zeroValue150
 t183 := Try.underlying151
 a183 := Try.isAgg151
 z183 := Try.sizeOf151
 v183 := Try.zeroValue151
 t218 := Try.underlying162
 a218 := Try.isAgg162
 z218 := Try.sizeOf162
 v218 := Try.zeroValue162
 t222 := Try.underlying166
 a222 := Try.isAgg166
 z222 := Try.sizeOf166
 v222 := Try.zeroValue166
 t228 := Try.underlying170
 a228 := Try.isAgg170
 z228 := Try.sizeOf170
 v228 := Try.zeroValue170
 t229 := Try.underlying171
 a229 := Try.isAgg171
 z229 := Try.sizeOf171
 v229 := Try.zeroValue171 }
open Go.Sort Go.RowKit in
theorem Try.slices_Sort_int (blk off cap : Nat) (zs : List Int) (w : World) (hH : Holds (Value.int .i64) w blk off zs.toArray) (hblk : blk < w.heap.size) (hsz : zs.length < 4611686018427387904) :
  Calls Try.prog 88 #[.slice (some ⟨blk, off, none⟩) zs.length cap] w fun e w' =>
   e = .returned (.tuple #[]) ∧ ∃ n os, w' = grow (putRow (Value.int .i64) (Sort.ahead w n) blk off (zs.mergeSort fun x y => decide (x ≤ y)).toArray) os := Any.slices_Sort_int Try.lays189 blk off cap zs w hH hblk hsz
def Try.laysNm220_ren : Go.Shelf.Ren := ⟨fun | 20 => 89 | n => n, fun | 22 => 22 | 3 => 3 | 4 => 4 | 0 => 0 | n => n, fun | n => n⟩
theorem Try.laysNm220 : Go.Proofs.Lays2.n20 Try.prog Try.laysNm220_ren := {
 mixed := by kernel_rfl
 f20 := Try.func89.trans (congrArg some (by kernel_rfl))
 t0 := Try.underlying0
 a0 := Try.isAgg0
 z0 := Try.sizeOf0
 v0 := Try.zeroValue0
 t3 := Try.underlying3
 a3 := Try.isAgg3
 z3 := Try.sizeOf3
 v3 := Try.zeroValue3
 t4 := Try.underlying4
 a4 := Try.isAgg4
 z4 := Try.sizeOf4
 v4 := Try.zeroValue4
 t22 := Try.underlying22
 a22 := Try.isAgg22
 z22 := Try.sizeOf22
 v22 := Try.zeroValue22
 i3 := by kernel_rfl }
open Go.RowKit Go.Lib Go.Sort in

theorem Try.slices_Compact_int_arr (blk off cap : Nat) (d : Array Int) (w : World) (hH : Holds encI w blk off d) (hsz : d.size ≤ 9223372036854775807) (hcap : d.size ≤ cap) :
  Calls Try.prog 89 #[.slice (some ⟨blk, off, none⟩) d.size cap] w fun e w' => e = .returned (.slice (some ⟨blk, off, none⟩) (compactUpTo d d.size).length cap) ∧ ∃ q, w' = putRow encI (Sort.ahead w q) blk off (compactUpTo d d.size ++ List.replicate (d.size - (compactUpTo d d.size).length) 0).toArray := Any.slices_Compact_int_arr Try.laysNm220 blk off cap d w hH hsz hcap
open Go.RowKit Go.Lib Go.Sort in

theorem Try.slices_Compact_int (blk off cap : Nat) (zs : List Int) (w : World) (hH : Holds (Value.int .i64) w blk off zs.toArray) (hsz : zs.length ≤ 9223372036854775807) (hcap : zs.length ≤ cap) :
  Calls Try.prog 89 #[.slice (some ⟨blk, off, none⟩) zs.length cap] w fun e w' => e = .returned (.slice (some ⟨blk, off, none⟩) (Lib.compact zs).length cap) ∧ ∃ q, w' = putRow (Value.int .i64) (Sort.ahead w q) blk off (Lib.compact zs ++ List.replicate (zs.length - (Lib.compact zs).length) 0).toArray := Any.slices_Compact_int Try.laysNm220 blk off cap zs w hH hsz hcap
open Go.RowKit Go.Lib Go.Sort in

theorem Try.slices_Compact_int_empty (a : Option Addr) (cap : Nat) (w : World) :
  Calls Try.prog 89 #[.slice a 0 cap] w fun e w' => e = .returned (.slice a 0 cap) ∧ w' = w := Any.slices_Compact_int_empty Try.laysNm220 a cap w
open Go.RowKit Go.Sort in

theorem Try.slices_Sort_int_none (p : Option Addr) (cap : Nat) (w : World) :
  Calls Try.prog 88 #[.slice p 0 cap] w fun e w' => e = .returned (.tuple #[]) ∧ w' = w := Any.slices_Sort_int_none Try.lays189 p cap w
end Go.Proofs

/-
 The court's Penalty: the walk.
-/
namespace Go.Am.Ct
open Go.Proofs Go.Am.Ap
set_option maxRecDepth 100000
set_option maxHeartbeats 4000000

variable {bs : List D} {j : Nat} {c : Cod} {l : List Akt} {a : Akt} {F : Nat → Prop}

attribute [local irreducible] inR

theorem ysto_noyl (hn : noyls bs = true) (m : Int) (p : Bool) (i : Nat) : noyls (ysto bs c m l p i) = true := by
 unfold ysto
 rw [noyls_app, hn, Bool.true_and]
 refine noyls_all fun d hd => ?_
 rcases List.mem_cons.1 hd with rfl | hd
 ·simp [D.noyl, noyls]
 ·obtain ⟨x, _, rfl⟩ := List.mem_map.1 hd
  simpa [D.noyl] using akt_noyl x

end Go.Am.Ct

/-
 The law on states and penalties.
-/
namespace Go.Am.Ct
open Go.Proofs Go.Am.Ap
set_option maxRecDepth 100000
set_option maxHeartbeats 4000000

variable {c : Cod} {l : List Akt}

attribute [local irreducible] inR

theorem right_pen (c : Cod) (car m : Int) : rightB c car m = penB c car m := by
 unfold rightB penB inR
 simp [Bool.and_assoc]

end Go.Am.Ct

/-
 The law on grounds.
-/
namespace Go.Am.Ct
open Go.Proofs Go.Am.Ap Go.Am.Srt
set_option maxRecDepth 100000
set_option maxHeartbeats 4000000

variable {c : Cod} {l : List Akt} {bs : List D} {j : Nat} {F : Nat → Prop}

attribute [local irreducible] inR

theorem c49g (hA : Acc c l) {sa sf : D} {fs : List (Int × D)} (h : Crt bs F j c l (qOf l) sa sf fs) (car m : Int) (hr : penB c car m = true) :
  ∃ (g : D) (B : List D), FSpecW Try.prog 49 (.st bs) [.loc j 0, I car, I m] (.tup [g, I 0]) (.st B) ∧ SlOf B 3 1 (fun x : Int => [I x]) g ((gR c l car m).map fun i : Nat => (i : Int)) ∧ bs.length ≤ B.length ∧ ∀ k, k < bs.length → B[k]? = bs[k]? := by
 have hmM : m ≤ MM := by
  unfold penB at hr
  rw [Bool.and_eq_true] at hr
  have := hr.2
  unfold inR at this
  simp at this
  unfold MM
  omega
 rw [← gr_eq hA hmM]
 exact c49 (fun hb hL => sortW (fun blk off cap zs w h1 h2 h3 => Try.slices_Sort_int blk off cap zs w h1 h2 h3) hb hL) (sortN fun p cap w => (Try.slices_Sort_int_none p cap w).mono fun e w' h => ⟨h.1, 0, by rw [h.2]; rfl⟩)
  (fun hb hL hc => compactW (cp := Lib.compact) (fun blk off cap zs w h1 h2 h3 => Try.slices_Compact_int blk off cap zs w h1 h2 h3) hb hL hc) (compactN fun a cap w => Try.slices_Compact_int_empty a cap w) hA h car m hr

theorem c13 (c : Cod) (l : List Akt) (car m : Int) : ∃ h', FSpecWO Try.prog 13 (.st []) [c.d, Rec l, I car, I m] (.ret (B true)) h' := by
 have k21 := c21 (bs := []) c
 obtain ⟨b22, k22, hb22⟩ := c22 (bs := []) l
 have k23 := c23 (bs := []) c
 have k16 := known_spec []
 cases hB : ((!(decide ((c.arts.length : Int) ≤ 20) || (decide (500 < (c.arts.length : Int)) && decide ((c.arts.length : Int) < 600)))) || (!b22)) || (!okCode c)
 rotate_left
 ·refine ⟨.st [], ku13.writeO rfl ?_⟩
  unfold u13
  simp only [ups_cons, ups_nil, List.cons_append, List.nil_append]
  repeat' (first | ((with_reducible apply nrm); (· simp only [sbe]; rfl)) | ((with_reducible apply u_iteT); (· rfl); (· exact hB)) | ((with_reducible apply u_chk); (· rfl)) | ((with_reducible apply u_ev); (· rfl); (· simp only [sbe]; rfl)) | ((with_reducible apply u_call); (· rfl); (· rfl); (· first | exact k21 | exact k22 | exact k23 | exact k16); (· rfl); (· simp only [sbe]; rfl)) | ((with_reducible apply u_or); (· rfl)) | (with_reducible exact u_ret rfl rfl) | ((with_reducible apply u_ret); (· rfl); first | exact rfl | (refine retB ?_) | (refine retI ?_) | (refine retD ?_)) | ((with_reducible intro hz); (try simp only [sbs] at hz)))
 ·have hB2 := hB
  simp only [Bool.or_eq_false_iff, Bool.not_eq_false'] at hB2
  obtain ⟨⟨_, h2⟩, h3⟩ := hB2
  obtain ⟨hl, hfa⟩ := hb22 h2
  have hc := codOk_of h3
  have hF : Fac l := fun a ha => by have := hfa a ha; omega
  have k30 := c30 (bs := []) h3 (by omega) hF
  obtain ⟨s, hs⟩ : ∃ s, s = crt (codOk_of h3) [] l := ⟨_, rfl⟩
  have hsl : s.l = rec c l := by rw [hs]; exact crt_l _ _ hF
  rw [← hs, ← hsl] at k30
  obtain ⟨sa, sf, fs, hcrt⟩ := s.crt
  have hI := inv_of _ s.acc
  have hlen := hI.len
  have k34 := fun bs => c34 (bs := bs) (c := c) car m
  have kk := fun bs => known_spec bs
  rw [right_pen] at k34
  cases hr : penB c car m
  ·have k49 := c49no hcrt.acts car m hr
   rw [hr] at k34
   refine ⟨.st s.bs, ku13.writeO rfl ?_⟩
   unfold u13
   simp only [ups_cons, ups_nil, List.cons_append, List.nil_append]
   repeat' (first | ((with_reducible apply nrm); (· simp only [sbe]; rfl)) | ((with_reducible apply u_iteT); (· rfl); (· exact rfl)) | ((with_reducible apply u_iteF); (· rfl); (· first | exact hB | exact rfl)) | ((with_reducible apply u_chk); (· rfl)) | ((with_reducible apply u_ev); (· rfl); (· simp only [sbe]; rfl)) | ((with_reducible apply u_call); (· rfl); (· rfl); (· first | exact k21 | exact k22 | exact k23 | exact k34 _ | exact kk _); (· rfl); (· simp only [sbe]; rfl)) | ((with_reducible apply u_wcall); (· rfl); (· rfl); (· first | exact k30 | exact k49); (· rfl); (· simp only [sbe]; rfl)) | ((with_reducible apply u_or); (· rfl)) | ((with_reducible apply u_and); (· rfl)) | (with_reducible exact u_ret rfl rfl) | ((with_reducible apply u_ret); (· rfl); first | exact rfl | (refine retB ?_) | (refine retI ?_) | (refine retD ?_)) | ((with_reducible intro hz); (try simp only [sbs] at hz)))
  ·obtain ⟨g, B', k49, hg, _, _⟩ := c49g s.acc hcrt car m hr
   rw [hr] at k34
   have hmb : 0 ≤ m ∧ m ≤ MM := by
    unfold penB at hr
    unfold MM
    simp only [Bool.and_eq_true] at hr
    have := hr.2
    unfold inR at this
    simpa using this
   have k50 := fun bs => c50 (bs := bs) hI car m hmb.1 hmb.2
   have hgl : ((gR c s.l car m).map fun i : Nat => (i : Int)).length ≤ 2000 := by
    have := List.length_filter_le (metB c s.l car m) (List.range s.l.length)
    rw [List.length_range] at this
    rw [List.length_map]
    unfold gR
    omega
   have k19 := c19s _ ((gR c s.l car m).map fun i : Nat => (i : Int)) hg (by omega)
   have eis : Is ((gR c s.l car m).map fun i : Nat => (i : Int)) = Ix (gR c s.l car m) := congrArg D.lst (by rw [List.map_map]; rfl)
   rw [decide_eq_true rfl, eis] at k19
   have hg1 : g.one = true := by rcases hg with ⟨_, rfl⟩ | ⟨_, rfl, _⟩ <;> rfl
   have hfit : D.fits [true, true] (.tup [g, I 0]) = true := by
    simp [D.fits, fitsAll, hg1]
    rfl
   refine ⟨.st B', ku13.writeO rfl ?_⟩
   unfold u13
   simp only [ups_cons, ups_nil, List.cons_append, List.nil_append]
   repeat' (first | ((with_reducible apply nrm); (· simp only [sbe]; rfl)) | ((with_reducible apply u_iteF); (· rfl); (· first | exact hB | exact rfl)) | ((with_reducible apply u_chk); (· rfl)) | ((with_reducible apply u_ev); (· rfl); (· simp only [sbe]; rfl)) | ((with_reducible apply u_call); (· rfl); (· rfl); (· first | exact k21 | exact k22 | exact k23); (· rfl); (· simp only [sbe]; rfl)) | ((with_reducible apply u_wcall); (· rfl); (· rfl); (· exact k30); (· rfl); (· simp only [sbe]; rfl)) | ((with_reducible apply u_or); (· rfl)) | (with_reducible exact u_ret rfl rfl) | ((with_reducible intro hz); (try simp only [sbs] at hz)))
   refine u_wcall rfl rfl k49 hfit (by simp only [sbe]; rfl) ?_
   repeat' (first | ((with_reducible apply nrm); (· simp only [sbe]; rfl)) | ((with_reducible apply u_iteF); (· rfl); (· exact rfl)) | ((with_reducible apply u_chk); (· rfl)) | ((with_reducible apply u_ev); (· rfl); (· simp only [sbe]; rfl)) | ((with_reducible apply u_call); (· rfl); (· rfl); (· first | exact k34 _ | exact k50 _ | exact k19 | exact kk _); (· rfl); (· simp only [sbe]; rfl)) | ((with_reducible apply u_and); (· rfl)) | (with_reducible exact u_ret rfl rfl) | ((with_reducible apply u_ret); (· rfl); first | exact rfl | (refine retB ?_) | (refine retI ?_) | (refine retD ?_)) | ((with_reducible intro hz); (try simp only [sbs] at hz)))

end Go.Am.Ct

/-
 Arguments of laws.
-/
namespace Go.Am.Ct
open Go.Am.Ap

theorem argInt {x : D} (h : ArgSh (.int .i64) x) : ∃ n, x = I n ∧ Ap.i64 n := by
 obtain ⟨n, hn, hb⟩ := ofI (h.2 rfl)
 cases hn
 exact ⟨n, rfl, hb⟩

def ActsOk (l : List Akt) : Prop := (∀ a, a ∈ l → a.Ok) ∧ l.length ≤ maxLen

theorem ofActs : ∀ {es : List D}, (∀ x, x ∈ es → ∃ cs, x = .agg cs ∧ OfSh shAct cs) → ∃ xs : List Akt, es = xs.map Akt.d ∧ ∀ a, a ∈ xs → a.Ok
 | [], _ => ⟨[], rfl, by simp⟩
 | e :: es, h => by
  obtain ⟨cs, rfl, h1⟩ := h e (by simp)
  obtain ⟨a, ha, ho⟩ := ofAct h1
  obtain ⟨xs, rfl, hx⟩ := ofActs (es := es) fun x hx => h x (by simp [hx])
  exact ⟨a :: xs, by rw [ha]; rfl, by simpa using ⟨ho, hx⟩⟩

theorem argActs {x : D} (h : ArgSh (.sl shAct) x) : ∃ l : List Akt, x = Rec l ∧ ActsOk l := by
 have h := h.2 rfl
 simp only [OfSh] at h
 obtain ⟨es, hx, hl, hes⟩ := h
 cases hx
 obtain ⟨xs, rfl, ho⟩ := ofActs fun x hx => (hes x hx).1 rfl
 exact ⟨xs, rfl, ho, by simpa using hl⟩

theorem ofArt {cs : List D} (h : OfSh shArt cs) : ∃ a : Art, .agg cs = a.d ∧ a.Ok := by
 simp only [shArt, OfSh, OfAll] at h
 have cv : ∀ {ds : List D}, (∃ n : Int, ds = [.v (.int .i64 n)] ∧ IntKind.i64.min ≤ n ∧ n ≤ IntKind.i64.max) → ∃ n, ds = [I n] ∧ Ap.i64 n := fun h => ofI (by simpa only [OfSh] using h)
 obtain ⟨_, _, rfl, h1, _, _, rfl, h2, _, _, rfl, h3, _, _, rfl, h4, rfl⟩ := h
 obtain ⟨n, rfl, b1⟩ := cv h1
 obtain ⟨f, rfl, b2⟩ := cv h2
 obtain ⟨l, rfl, b3⟩ := cv h3
 obtain ⟨m, rfl, b4⟩ := cv h4
 exact ⟨⟨n, f, l, m⟩, rfl, b1, b2, b3, b4⟩

theorem ofArts : ∀ {es : List D}, (∀ x, x ∈ es → ∃ cs, x = .agg cs ∧ OfSh shArt cs) → ∃ xs : List Art, es = xs.map Art.d ∧ ∀ a, a ∈ xs → a.Ok
 | [], _ => ⟨[], rfl, by simp⟩
 | e :: es, h => by
  obtain ⟨cs, rfl, h1⟩ := h e (by simp)
  obtain ⟨a, ha, ho⟩ := ofArt h1
  obtain ⟨xs, rfl, hx⟩ := ofArts (es := es) fun x hx => h x (by simp [hx])
  exact ⟨a :: xs, by rw [ha]; rfl, by simpa using ⟨ho, hx⟩⟩

theorem argCode {x : D} (h : ArgSh shCode x) : ∃ c : Cod, x = c.d ∧ c.Ok := by
 obtain ⟨cs, rfl, hh⟩ := h.1 rfl
 simp only [shCode, OfSh, OfAll] at hh
 have cv : ∀ {ds : List D}, (∃ n : Int, ds = [.v (.int .i64 n)] ∧ IntKind.i64.min ≤ n ∧ n ≤ IntKind.i64.max) → ∃ n, ds = [I n] ∧ Ap.i64 n := fun h => ofI (by simpa only [OfSh] using h)
 obtain ⟨_, _, rfl, h1, _, _, rfl, ⟨es, rfl, hl, hes⟩, _, _, rfl, h3, _, _, rfl, h4, _, _, rfl, h5, _, _, rfl, h6, rfl⟩ := hh
 obtain ⟨a, rfl, b1⟩ := cv h1
 obtain ⟨w, rfl, b3⟩ := cv h3
 obtain ⟨s, rfl, b4⟩ := cv h4
 obtain ⟨f, rfl, b5⟩ := cv h5
 obtain ⟨p, rfl, b6⟩ := cv h6
 obtain ⟨xs, rfl, hx⟩ := ofArts fun x hx => (hes x hx).1 rfl
 exact ⟨⟨a, xs, w, s, f, p⟩, rfl, b1, b3, b4, b5, b6, hx, by simpa using hl⟩

end Go.Am.Ct
