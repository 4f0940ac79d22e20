/-
 Splitting: small functions.
-/
import Derived.Test.YtnenlnmfoocpdaaApU4toApRef1
import Derived.Test.YtnenlnmfoocpdaaAmSortUtoAmSort5
set_option linter.unusedSimpArgs false
set_option linter.unusedVariables false
namespace Go.Am.Ct
open Go.Proofs Go.Am.Ap Go.Am.Srt
set_option maxRecDepth 100000
set_option maxHeartbeats 4000000

variable {bs : List D}

attribute [local irreducible] inR

def fiI (P : Int → Bool) (l : List Int) : Int := match l.findIdx? P with
 | some i => i
 | none => -1

theorem fiI_at {P : Int → Bool} {l : List Int} {i : Nat} (hi : i < l.length) (hP : P l[i] = true) (hn : ∀ k (h : k < i), P (l[k]'(by omega)) = false) : fiI P l = i := by
 have : l.findIdx? P = some i := by
  rw [List.findIdx?_eq_some_iff_getElem]
  exact ⟨hi, hP, fun j hj => by simp [hn j hj]⟩
 simp [fiI, this]

theorem fiI_no {P : Int → Bool} {l : List Int} (hn : ∀ a, a ∈ l → P a = false) : fiI P l = -1 := by
 have : l.findIdx? P = none := by
  rw [List.findIdx?_eq_none_iff]
  exact hn
 simp [fiI, this]

theorem fiI_any (P : Int → Bool) (l : List Int) : decide (fiI P l ≥ 0) = l.any P := by
 cases h : l.findIdx? P with
 | none =>
  have h2 := List.findIdx?_eq_none_iff.1 h
  have : l.any P = false := by
   rw [List.any_eq_false]
   intro x hx
   simp [h2 x hx]
  rw [this]
  simp [fiI, h]
 | some i =>
  obtain ⟨h1, h2, _⟩ := List.findIdx?_eq_some_iff_getElem.1 h
  have : l.any P = true := List.any_eq_true.2 ⟨_, List.getElem_mem h1, h2⟩
  rw [this]
  simp [fiI, h]

theorem c103 {P : Int → Bool} {f : Nat} {us cs : List D} {l : List Int} (hL : l.length ≤ 1000000000) (hc : callable Try.prog f = true) (hf : ∀ x, x ∈ l → FSpecR Try.prog f (.st bs) (us ++ [I x] ++ cs) (B (P x))) : FSpecR Try.prog 103 (.st bs) [Is l, .fn f us cs] (I (fiI P l)) := by
 refine ku103.R rfl rfl ?_
 unfold u103
 simp only [ups_cons, ups_nil, List.cons_append, List.nil_append]
 repeat' (first | ((with_reducible apply u_lenL); (· rfl); (· exact lenL_map); (· simp only [sbe]; rfl)) | (with_reducible refine u_join ?_))
 refine u_range (fun i => [I i]) (fun i => ∀ k (h : k < i) (h2 : k < l.length), P l[k] = false) l.length rfl (fun _ => rfl) (fun k h => absurd h (Nat.not_lt_zero _)) (fun i hi hJ R hR => ?_) (fun hJ R => ?_)
 ·have hcal := hf l[i] (List.getElem_mem hi)
  have hli : decide ((i : Int) < (l.length : Int)) = true := by simp; omega
  cases hP : P l[i]
  ·rw [hP] at hcal
   repeat' (first | ((with_reducible apply nrm); (· simp only [sbe]; rfl)) | ((with_reducible apply u_iteT); (· rfl); (· exact hli)) | ((with_reducible apply u_iteF); (· rfl); (· exact rfl)) | ((with_reducible apply u_eaddr); (· rfl); (· rfl); (· exact eaddr_get hi rfl); (· simp only [sbe]; rfl)) | ((with_reducible apply u_inc); (· rfl); (· omega); (· simp only [sbe]; rfl)) | ((with_reducible apply u_ev); (· rfl); (· simp only [sbe]; rfl)) | ((with_reducible apply u_callv); (· rfl); (· exact hc); (· rfl); (· rfl); (· exact hcal); (· rfl); (· simp only [sbe]; rfl)) | (with_reducible refine u_join ?_) | ((with_reducible apply u_jump); (· rfl); (· rfl)) | (with_reducible refine at_jump ?_) | (with_reducible refine kj rfl ?_))
   refine hR fun k hk h2 => ?_
   rcases Nat.lt_or_ge k i with h3 | h3
   ·exact hJ k h3 h2
   ·have e : k = i := by omega
    subst e
    exact hP
  ·rw [hP] at hcal
   repeat' (first | ((with_reducible apply nrm); (· simp only [sbe]; rfl)) | ((with_reducible apply u_iteT); (· rfl); (· first | exact hli | exact rfl)) | ((with_reducible apply u_eaddr); (· rfl); (· rfl); (· exact eaddr_get hi rfl); (· simp only [sbe]; rfl)) | ((with_reducible apply u_ev); (· rfl); (· simp only [sbe]; rfl)) | ((with_reducible apply u_callv); (· rfl); (· exact hc); (· rfl); (· rfl); (· exact hcal); (· rfl); (· simp only [sbe]; rfl)) | (with_reducible refine u_join ?_) | ((with_reducible apply u_ret); (· rfl); first | exact rfl | (refine retB ?_) | (refine retI ?_) | (refine retD ?_)))
   exact (fiI_at hi hP fun k hk => hJ k hk (by omega)).symm
 ·repeat' (first | ((with_reducible apply nrm); (· simp only [sbe]; rfl)) | ((with_reducible apply u_ev); (· rfl); (· simp only [sbe]; rfl)) | ((with_reducible apply u_jump); (· rfl); (· rfl)) | (with_reducible refine at_jump ?_) | (with_reducible refine over_jump (by decide) ?_) | (with_reducible refine kj rfl ?_) | ((with_reducible apply u_ite); (· rfl); all_goals (intro hz; (try simp only [sbs] at hz); first | (exact absurd hz (by decide)) | (exfalso; omega) | skip)) | ((with_reducible apply u_ret); (· rfl); first | exact rfl | (refine retB ?_) | (refine retI ?_) | (refine retD ?_)))
  refine (fiI_no fun a ha => ?_).symm
  obtain ⟨k, hk, rfl⟩ := List.mem_iff_getElem.1 ha
  exact hJ k hk hk

theorem c79 {P : Int → Bool} {f : Nat} {us cs : List D} {l : List Int} (hL : l.length ≤ 1000000000) (hc : callable Try.prog f = true) (hf : ∀ x, x ∈ l → FSpecR Try.prog f (.st bs) (us ++ [I x] ++ cs) (B (P x))) : FSpecR Try.prog 79 (.st bs) [Is l, .fn f us cs] (B (l.any P)) := by
 have h := c103 hL hc hf
 refine ku79.R rfl rfl ?_
 unfold u79
 simp only [ups_cons, ups_nil, List.cons_append, List.nil_append]
 repeat' (first | ((with_reducible apply u_ev); (· rfl); (· simp only [sbe]; rfl)) | ((with_reducible apply u_call); (· rfl); (· rfl); (· exact h); (· rfl); (· simp only [sbe]; rfl)) | ((with_reducible apply u_ret); (· rfl); first | exact rfl | (refine retB ?_) | (refine retI ?_) | (refine retD ?_)))
 rw [← fiI_any]

theorem c90 (x : Int) : FSpecR Try.prog 90 (.st bs) [I x] (B (!inR x 0 1000000)) := by
 refine ku90.R rfl rfl ?_
 unfold u90
 simp only [ups_cons, ups_nil, List.cons_append, List.nil_append]
 repeat' (first | ((with_reducible apply u_ev); (· rfl); (· simp only [sbe]; rfl)) | ((with_reducible apply u_call); (· rfl); (· rfl); (· exact c52 _ _ _); (· rfl); (· simp only [sbe]; rfl)) | (with_reducible exact u_ret rfl rfl))

def mxI (x : Int) (l : List Int) : Int := l.foldl (fun a b => max a b) x

theorem mxI_pos (l : List Int) : ∀ x : Int, 0 < mxI x l ↔ 0 < x ∨ ∃ y, y ∈ l ∧ 0 < y := by
 induction l with
 | nil => intro x; simp [mxI]
 | cons a l ih =>
  intro x
  have : mxI x (a :: l) = mxI (max x a) l := rfl
  rw [this, ih]
  constructor
  ·rintro (h | ⟨y, h1, h2⟩)
   ·rcases Int.lt_or_le 0 x with h3 | h3
    ·exact .inl h3
    ·exact .inr ⟨a, by simp, by omega⟩
   ·exact .inr ⟨y, by simp [h1], h2⟩
  ·rintro (h | ⟨y, h1, h2⟩)
   ·exact .inl (by omega)
   ·rcases List.mem_cons.1 h1 with rfl | h1
    ·exact .inl (by omega)
    ·exact .inr ⟨y, h1, h2⟩

theorem c91 (x : Int) (l : List Int) (hL : l.length ≤ 1000000000) : FSpecR Try.prog 91 (.st bs) [Is (x :: l)] (I (mxI x l)) := by
 refine ku91.R rfl rfl ?_
 unfold u91
 simp only [ups_cons, ups_nil, List.cons_append, List.nil_append]
 have hf : decide (((x :: l).length : Int) < 1) = false := by simp; omega
 have h0 := eaddr_get (xs := x :: l) (enc := I) (sz := 1) (i := 0) (by simp) rfl
 repeat' (first | ((with_reducible apply nrm); (· simp only [sbe]; rfl)) | ((with_reducible apply u_iteF); (· rfl); (· exact hf)) | ((with_reducible apply u_eaddr); (· rfl); (· rfl); (· exact h0); (· simp only [sbe]; rfl)) | ((with_reducible apply u_lenL); (· rfl); (· exact lenL_map); (· simp only [sbe]; rfl)) | ((with_reducible apply u_ev); (· rfl); (· simp only [sbe]; rfl)) | (with_reducible refine u_join ?_) | ((with_reducible apply u_jump); (· rfl); (· rfl)) | (with_reducible refine at_jump ?_) | (with_reducible refine kj rfl ?_))
 refine u_range (fun i => [I (mxI x (l.take i)), I ((i + 1 : Nat) : Int)]) (fun _ => True) l.length rfl (fun _ => rfl) trivial (fun i hi _ R hR => ?_) (fun _ R => ?_)
 ·have hr := hR trivial
  obtain ⟨y, hy⟩ : ∃ y, l[i]? = some y := ⟨_, List.getElem?_eq_getElem hi⟩
  have ht : decide (((i + 1 : Nat) : Int) < ((x :: l).length : Int)) = true := by simp; omega
  have he := eaddr_lst (xs := x :: l) (enc := I) (sz := 1) (i := i + 1) (a := y) (by simpa using hy) rfl
  have e : mxI x (l.take (i + 1)) = max (mxI x (l.take i)) y := by
   rw [List.take_add_one, hy]
   simp [mxI, List.foldl_append]
  have e2 : max (mxI x (l.take i)) y = if True then (if y > mxI x (l.take i) then y else mxI x (l.take i)) else (if y < mxI x (l.take i) then y else mxI x (l.take i)) := by
   rw [if_pos trivial]
   split <;> omega
  rw [e, e2] at hr
  repeat' (first | ((with_reducible apply nrm); (· simp only [sbe]; rfl)) | ((with_reducible apply u_iteT); (· rfl); (· exact ht)) | ((with_reducible apply u_eaddr); (· rfl); (· rfl); (· exact he); (· simp only [sbe]; rfl)) | ((with_reducible apply u_lenL); (· rfl); (· exact lenL_map); (· simp only [sbe]; rfl)) | ((with_reducible apply u_inc); (· rfl); (· omega); (· simp only [sbe]; rfl)) | ((with_reducible apply u_ev); (· rfl); (· simp only [sbe]; rfl)) | (with_reducible refine u_join ?_) | ((with_reducible apply u_jump); (· rfl); (· rfl)) | (with_reducible refine at_jump ?_) | (with_reducible refine kj rfl ?_))
  exact hr
 ·have hf2 : decide (((l.length + 1 : Nat) : Int) < ((x :: l).length : Int)) = false := by simp
  repeat' (first | ((with_reducible apply nrm); (· simp only [sbe]; rfl)) | ((with_reducible apply u_iteF); (· rfl); (· exact hf2)) | ((with_reducible apply u_lenL); (· rfl); (· exact lenL_map); (· simp only [sbe]; rfl)) | ((with_reducible apply u_ev); (· rfl); (· simp only [sbe]; rfl)) | ((with_reducible apply u_jump); (· rfl); (· rfl)) | (with_reducible refine at_jump ?_) | (with_reducible refine over_jump (by decide) ?_) | (with_reducible refine kj rfl ?_) | ((with_reducible apply u_ret); (· rfl); first | exact rfl | (refine retB ?_) | (refine retI ?_) | (refine retD ?_)))
  rw [List.take_length]

def shOk (l : List Int) : Bool := inR l.length 1 100 && ((l.all fun x => inR x 0 1000000) && decide (0 < l.sum))

theorem sum_pos {l : List Int} (h : ∀ x, x ∈ l → 0 ≤ x) : 0 ≤ l.sum ∧ (0 < l.sum ↔ ∃ y, y ∈ l ∧ 0 < y) := by
 induction l with
 | nil => simp
 | cons a l ih =>
  have h1 := ih fun x hx => h x (by simp [hx])
  have h2 := h a (by simp)
  rw [List.sum_cons]
  refine ⟨by omega, ?_⟩
  constructor
  ·intro h3
   rcases Int.lt_or_le 0 a with h4 | h4
   ·exact ⟨a, by simp, h4⟩
   ·obtain ⟨y, h5, h6⟩ := h1.2.1 (by omega)
    exact ⟨y, by simp [h5], h6⟩
  ·rintro ⟨y, h5, h6⟩
   rcases List.mem_cons.1 h5 with rfl | h5
   ·omega
   ·have := h1.2.2 ⟨y, h5, h6⟩
    omega

theorem c53 (l : List Int) (hL : l.length ≤ 1000000) : FSpecR Try.prog 53 (.st bs) [Is l] (B (shOk l)) := by
 have k52 := c52 (bs := bs) l.length 1 100
 have k79 := c79 (bs := bs) (P := fun x => !inR x 0 1000000) (f := 90) (us := []) (cs := []) (l := l) (by omega) rfl (fun x _ => c90 x)
 have e79 : (!(l.any fun x => !inR x 0 1000000)) = l.all fun x => inR x 0 1000000 := by simp [List.all_eq_not_any_not]
 refine ku53.R rfl rfl ?_
 unfold u53
 simp only [ups_cons, ups_nil, List.cons_append, List.nil_append]
 unfold shOk
 cases h1 : inR (l.length : Int) 1 100
 ·rw [h1] at k52
  repeat' (first | ((with_reducible apply nrm); (· simp only [sbe]; rfl)) | ((with_reducible apply u_andF); (· rfl); (· exact rfl)) | ((with_reducible apply u_lenL); (· rfl); (· exact lenL_map); (· simp only [sbe]; rfl)) | ((with_reducible apply u_call); (· rfl); (· rfl); (· exact k52); (· rfl); (· simp only [sbe]; rfl)) | (with_reducible exact u_ret rfl rfl))
 ·rw [h1] at k52
  cases h2 : l.all fun x => inR x 0 1000000
  ·rw [h2] at e79
   have e : (true && !(l.any fun x => !inR x 0 1000000)) = false := by rw [e79]; rfl
   repeat' (first | ((with_reducible apply nrm); (· simp only [sbe]; rfl)) | ((with_reducible apply u_andF); (· rfl); (· exact e)) | ((with_reducible apply u_lenL); (· rfl); (· exact lenL_map); (· simp only [sbe]; rfl)) | ((with_reducible apply u_ev); (· rfl); (· simp only [sbe]; rfl)) | ((with_reducible apply u_call); (· rfl); (· rfl); (· first | exact k52 | exact k79); (· rfl); (· simp only [sbe]; rfl)) | ((with_reducible apply u_and); (· rfl)) | (with_reducible exact u_ret rfl rfl) | ((with_reducible intro hz); (try simp only [sbs] at hz)))
  ·rw [h2] at e79
   cases l with
   | nil => unfold inR at h1; simp at h1
   | cons x l =>
    have k91 := c91 (bs := bs) x l (by simp at hL; omega)
    have hp : ∀ y, y ∈ x :: l → 0 ≤ y := fun y hy => by
     have := List.all_eq_true.1 h2 y hy
     unfold inR at this
     simp at this
     omega
    have hs := (sum_pos hp).2
    have hm := mxI_pos l x
    have e : decide (mxI x l > 0) = decide (0 < (x :: l).sum) := by
     rw [decide_eq_decide, gt_iff_lt, hm, hs]
     simp
    repeat' (first | ((with_reducible apply nrm); (· simp only [sbe]; rfl)) | ((with_reducible apply u_lenL); (· rfl); (· exact lenL_map); (· simp only [sbe]; rfl)) | ((with_reducible apply u_ev); (· rfl); (· simp only [sbe]; rfl)) | ((with_reducible apply u_call); (· rfl); (· rfl); (· first | exact k52 | exact k79 | exact k91); (· rfl); (· simp only [sbe]; rfl)) | ((with_reducible apply u_and); (· rfl)) | (with_reducible exact u_ret rfl rfl) | ((with_reducible apply u_ret); (· rfl); first | exact rfl | (refine retB ?_) | (refine retI ?_) | (refine retD ?_)) | ((with_reducible intro hz); (try simp only [sbs] at hz)))
    rw [e79, e]
    rfl

theorem c93 (x y : Int) : FSpecR Try.prog 93 (.st bs) [I x, I y] (I (cmpD y x)) := by
 refine ku93.R rfl rfl ?_
 unfold u93
 simp only [ups_cons, ups_nil, List.cons_append, List.nil_append]
 repeat' (first | ((with_reducible apply u_call); (· rfl); (· rfl); (· exact c83 _ _); (· rfl); (· simp only [sbe]; rfl)) | (with_reducible exact u_ret rfl rfl))

def cmpX (xs : List Int) (i j : Int) : Int := cmpD (xs.getD j.toNat 0) (xs.getD i.toNat 0)
def domX (xs : List Int) (i : Int) : Prop := 0 ≤ i ∧ i < xs.length

theorem ordX (xs : List Int) : Ord (cmpX xs) (domX xs) where
 anti := fun x y _ _ => by unfold cmpX cmpD; repeat' split <;> omega
 trans := fun x y z _ _ _ => by unfold cmpX cmpD; repeat' split <;> omega

theorem c109 {xs : List Int} {i j : Int} (hi : domX xs i) (hj : domX xs j) : FSpecR Try.prog 109 (.st bs) [I i, I j, .ptr [.fn 93 [] []], .ptr [Is xs]] (I (cmpX xs i j)) := by
 obtain ⟨a, rfl⟩ : ∃ a : Nat, i = a := ⟨i.toNat, by have := hi.1; omega⟩
 obtain ⟨b, rfl⟩ : ∃ b : Nat, j = b := ⟨j.toNat, by have := hj.1; omega⟩
 have ha : a < xs.length := by have := hi.2; omega
 have hb : b < xs.length := by have := hj.2; omega
 have k93 := c93 (bs := bs) xs[a] xs[b]
 have e : cmpX xs a b = cmpD xs[b] xs[a] := by unfold cmpX; simp [ha, hb]
 rw [e]
 refine ku109.R rfl rfl ?_
 unfold u109
 simp only [ups_cons, ups_nil, List.cons_append, List.nil_append]
 repeat' (first | ((with_reducible apply u_eaddr); (· rfl); (· rfl); (· first | exact eaddr_get ha rfl | exact eaddr_get hb rfl); (· simp only [sbe]; rfl)) | ((with_reducible apply u_ev); (· rfl); (· simp only [sbe]; rfl)) | ((with_reducible apply u_callv); (· rfl); (· rfl); (· rfl); (· rfl); (· exact k93); (· rfl); (· simp only [sbe]; rfl)) | (with_reducible exact u_ret rfl rfl))

def upI (n : Nat) : List Int := List.map (fun (i : Nat) => (i : Int)) (List.range n)

theorem upI_grow (n : Nat) : (upI n).Pairwise (· < ·) := by
 unfold upI
 rw [List.pairwise_map]
 exact List.pairwise_lt_range.imp fun h => by omega
theorem upI_len (n : Nat) : (upI n).length = n := by simp [upI]
theorem upI_mem {n : Nat} {x : Int} : x ∈ upI n ↔ 0 ≤ x ∧ x < n := by
 unfold upI
 simp only [List.mem_map, List.mem_range]
 constructor
 ·rintro ⟨i, h, rfl⟩; omega
 ·intro h; exact ⟨x.toNat, by omega, by omega⟩

def fal (xs : List Int) : List Int := so (cmpX xs) (upI xs.length)

theorem row_app (bs : List D) (e : TypeId) (y : D) (xs : List Int) : Row (bs ++ [y]) bs.length e xs = bs ++ [.blk e 1 (xs.map J)] := by
 unfold Row
 rw [List.set_append_right _ _ (Nat.le_refl _), Nat.sub_self]
 rfl

theorem e_tcons {x y : E} {env : List D} {d : D} {ds : List D} (hx : x.eval env = some d) (hy : y.eval env = some (.tup ds)) : (E.tcons x y).eval env = some (.tup (d :: ds)) := by
 simp only [E.eval, hx, hy, Option.bind_some, D.tcons]

theorem c92 (xs : List Int) (hL : xs.length ≤ 1000000) (hn : 0 < xs.length) : FSpecW Try.prog 92 (.st bs) [Is xs, .fn 93 [] []] (.sl bs.length 0 xs.length) (.st (Row (bs ++ [.tup []]) bs.length 3 (fal xs))) := by
 have hb : bs.length < (bs ++ [D.tup []]).length := by simp
 have hcmp : CmpOk Try.prog (bs ++ [D.tup []]) bs.length 3 109 [] [.ptr [.fn 93 [] []], .ptr [Is xs]] (cmpX xs) (domX xs) := ⟨rfl, fun _ x y hx hy => c109 hx hy⟩
 have hs := srt ku108 ku122 ku129 ku131 ku132 ku128 hb (ordX xs) hcmp (e := 3) (xs := upI xs.length) (n := xs.length) (upI_len _) (by omega) (fun z hz => by have := upI_mem.1 hz; exact this) (upI_grow _)
 have hrep : D.rep 8 (I xs.length) (.v (.int .i64 0)) = some (.lst (List.replicate xs.length (I 0))) := by
  unfold D.rep
  simp only
  rw [if_pos (by unfold maxLen; omega)]
  simp
 have hz : allCells 1 (List.replicate xs.length (I 0)) = true ∧ cellsL (List.replicate xs.length (I 0)) = List.replicate xs.length (I 0) := by
  refine ⟨by simp [allCells, D.cells], ?_⟩
  generalize xs.length = n
  induction n with
  | zero => rfl
  | succ n ih =>
   rw [List.replicate_succ]
   show (I 0).cells ++ cellsL (List.replicate n (I 0)) = _
   rw [ih]
   rfl
 have hnew : D.newv 3 1 (.st bs) (.lst (List.replicate xs.length (I 0))) = some (.st (Row (bs ++ [.tup []]) bs.length 3 (List.replicate xs.length 0))) := by
  unfold D.newv
  simp only [hz.1, hz.2, true_and]
  rw [if_pos (by simp [D.one]), row_app, List.map_replicate]
 have hfst : D.fstsl (.st bs) (.lst (List.replicate xs.length (I 0))) = some (.sl bs.length 0 xs.length) := by simp [D.fstsl]
 refine ku92.W rfl ?_
 unfold u92
 simp only [ups_cons, ups_nil, List.cons_append, List.nil_append]
 have ev1 : ∀ (x y : E) (env : List D), x.eval env = some (.st bs) → y.eval env = some (I xs.length) → (E.newv 3 1 x (.rep 8 y (.v (.int .i64 0)))).eval env = some (.st (Row (bs ++ [.tup []]) bs.length 3 (List.replicate xs.length 0))) := fun x y env hx hy => by
  simp only [E.eval, hx, hy, Option.bind_some, hrep, hnew]
 have ev3 : ∀ (x y : E) (env : List D), x.eval env = some (.st bs) → y.eval env = some (I xs.length) → (E.fstsl x (.rep 8 y (.v (.int .i64 0)))).eval env = some (.sl bs.length 0 xs.length) := fun x y env hx hy => by
  simp only [E.eval, hx, hy, Option.bind_some, hrep, hfst]
 have ev2 : ∀ (x y : E) (env : List D), x.eval env = some (.st bs) → y.eval env = some (I xs.length) → (E.lenL (.fstsl x (.rep 8 y (.v (.int .i64 0))))).eval env = some (I xs.length) := fun x y env hx hy => by
  have h := ev3 x y env hx hy
  simp only [E.eval] at h ⊢
  rw [h]
  rfl
 have ev4 : ∀ (x y z : E) (env : List D) (i : Nat), i < xs.length → x.eval env = some (.st bs) → y.eval env = some (I xs.length) → z.eval env = some (I i) → (E.eaddr 1 (.fstsl x (.rep 8 y (.v (.int .i64 0)))) z).eval env = some (.loc bs.length (i * 1)) := fun x y z env i hi hx hy hz => by
  have h := ev3 x y env hx hy
  simp only [E.eval, hz] at h ⊢
  rw [h]
  exact eaddr_sl hi
 repeat' (first | ((with_reducible apply u_lenL); (· rfl); (· exact lenL_map); (· simp only [sbe]; rfl)) | ((with_reducible apply u_ev); (· first | exact ev1 _ _ _ rfl rfl | exact ev2 _ _ _ rfl rfl); (· simp only [sbe]; rfl)) | ((with_reducible apply u_ev); (· rfl); (· simp only [sbe]; rfl)) | (with_reducible refine u_join ?_))
 refine u_range (fun i => [I i, .st (Row (bs ++ [.tup []]) bs.length 3 (upI i ++ List.replicate (xs.length - i) 0))]) (fun _ => True) xs.length rfl (fun _ => rfl) trivial (fun i hi _ R hR => ?_) (fun _ R => ?_)
 ·have hr := hR trivial
  have hst := row_sto (bs := bs ++ [.tup []]) (b := bs.length) (e := 3) (xs := upI i ++ List.replicate (xs.length - i) 0) hb (j := i) (x := (i : Int)) (by simp [upI_len]; omega)
  have e : (upI i ++ List.replicate (xs.length - i) 0).set i (i : Int) = upI (i + 1) ++ List.replicate (xs.length - (i + 1)) 0 := by
   rw [List.set_append_right _ _ (by rw [upI_len]; omega), upI_len, Nat.sub_self, show xs.length - i = (xs.length - (i + 1)) + 1 by omega, List.replicate_succ, List.set_cons_zero]
   unfold upI
   rw [List.range_succ, List.map_append]
   simp
  rw [← e] at hr
  repeat' (first | ((with_reducible apply nrm); (· simp only [sbe]; rfl)) | ((with_reducible apply u_sto); (· rfl); (· rfl); (· rfl); (· exact hst); (· simp only [sbe]; rfl)) | ((with_reducible apply u_inc); (· rfl); (· omega); (· simp only [sbe]; rfl)) | ((with_reducible apply u_ev); (· exact ev4 _ _ _ _ i hi rfl rfl rfl); (· simp only [sbe]; rfl)) | ((with_reducible apply u_ev); (· rfl); (· simp only [sbe]; rfl)) | (with_reducible refine u_join ?_) | ((with_reducible apply u_jump); (· rfl); (· rfl)) | (with_reducible refine at_jump ?_) | (with_reducible refine kj rfl ?_) | ((with_reducible apply u_ite); (· rfl); all_goals (intro hz; (try simp only [sbs] at hz); first | (exact absurd hz (by decide)) | (exfalso; omega) | skip)))
  exact hr
 ·rw [Nat.sub_self, List.replicate_zero, List.append_nil (upI xs.length)]
  repeat' (first | ((with_reducible apply nrm); (· simp only [sbe]; rfl)) | ((with_reducible apply u_ev); (· rfl); (· simp only [sbe]; rfl)) | ((with_reducible apply u_jump); (· rfl); (· rfl)) | (with_reducible refine at_jump ?_) | (with_reducible refine over_jump (by decide) ?_) | (with_reducible refine kj rfl ?_) | ((with_reducible apply u_ite); (· rfl); all_goals (intro hz; (try simp only [sbs] at hz); first | (exact absurd hz (by decide)) | (exfalso; omega) | skip)))
  refine u_wcall rfl (show evalAll _ _ = some [.sl bs.length 0 xs.length, .fn 109 [] [.ptr [.fn 93 [] []], .ptr [Is xs]]] from ?_) hs rfl (by simp only [sbe]; rfl) ?_
  ·simp only [evalAll]
   rw [ev3 _ _ _ rfl rfl]
   rfl
  ·exact u_ret (e_tcons (ev3 _ _ _ rfl rfl) rfl) rfl

end Go.Am.Ct
