/-
 The court's Grounds.
-/
import Derived.Test.YtnenlnmfoocpdaaApU4toApCourt4
import Derived.Test.YtnenlnmfoocpdaaApKilltoApFee3
import Derived.Test.YtnenlnmfoocpdaaAmSortUtoAmSetL
set_option linter.unusedSimpArgs false
set_option linter.unusedVariables false
namespace Go.Am.Ct
open Go.Proofs Go.Am.Ap Go.Am.Srt
set_option maxRecDepth 100000
set_option maxHeartbeats 4000000

variable {bs : List D} {j : Nat} {c : Cod} {l : List Akt} {a : Akt} {F : Nat → Prop}

attribute [local irreducible] inR

structure Gs where
 bs : List D
 o : Nat
 lst : List Int

def Gs.out (s : Gs) : D := if s.lst = [] then .snil else .sl s.o 0 s.lst.length
def Gs.push (s : Gs) (x : Int) : Gs := if s.lst = [] then ⟨s.bs ++ [.blk 3 1 [I x]], s.bs.length, [x]⟩ else ⟨s.bs.set s.o (.tup []) ++ [.blk 3 1 ((s.lst ++ [x]).map I)], s.bs.length, s.lst ++ [x]⟩
def Gs.var (s : Gs) (p : Int) : Gs := ⟨s.bs ++ [.blk 3 1 [I p]], s.o, s.lst⟩

structure Gs.Ok (s : Gs) (base : List D) : Prop where
 len : base.length ≤ s.bs.length
 old : ∀ k, k < base.length → s.bs[k]? = base[k]?
 row : s.lst ≠ [] → base.length ≤ s.o ∧ s.bs[s.o]? = some (.blk 3 1 (s.lst.map I))

theorem Gs.push_lst (s : Gs) (x : Int) : (s.push x).lst = s.lst ++ [x] := by
 unfold Gs.push
 split
 ·rename_i h; simp [h]
 ·rfl

theorem Gs.Ok.push {s : Gs} {base : List D} (h : s.Ok base) (x : Int) : (s.push x).Ok base := by
 unfold Gs.push
 by_cases he : s.lst = []
 ·rw [if_pos he]
  refine ⟨by have := h.len; simp; omega, fun k hk => ?_, fun _ => ⟨h.len, by simp⟩⟩
  have := h.len
  simp only
  rw [List.getElem?_append_left (by omega), h.old k hk]
 ·rw [if_neg he]
  obtain ⟨h1, h2⟩ := h.row he
  have := h.len
  refine ⟨by simp; omega, fun k hk => ?_, fun _ => ⟨h.len, by rw [List.getElem?_append_right (by simp)]; simp⟩⟩
  simp only
  rw [List.getElem?_append_left (by simp; omega), List.getElem?_set_ne (by omega), h.old k hk]

theorem Gs.Ok.var {s : Gs} {base : List D} (h : s.Ok base) (p : Int) : (s.var p).Ok base := by
 unfold Gs.var
 have hl := h.len
 refine ⟨by simp; omega, fun k hk => ?_, fun hne => ⟨(h.row hne).1, ?_⟩⟩
 ·simp only
  rw [List.getElem?_append_left (by omega), h.old k hk]
 ·have h2 := (h.row hne).2
  simp only
  rw [List.getElem?_append_left (List.getElem?_eq_some_iff.1 h2).1]
  exact h2

theorem Gs.Ok.push_step {s : Gs} {base : List D} (h : s.Ok base) (x : Int) (hb : s.lst.length + 1 ≤ 1000000) : D.apph 3 1 8 (.st s.bs) s.out (.lst [I x]) = some (.st (s.push x).bs) ∧ (s.push x).out = .sl s.bs.length 0 (s.lst.length + 1) := by
 unfold Gs.out Gs.push
 by_cases he : s.lst = []
 ·rw [if_pos he, if_pos he]
  refine ⟨?_, by simp [he]⟩
  simp only [D.apph, List.cons_ne_nil, if_false]
  rw [if_pos (by unfold maxLen; simp [allCells, D.cells, cellsL, D.one])]
  rfl
 ·rw [if_neg he, if_neg he]
  obtain ⟨h1, h2⟩ := h.row he
  refine ⟨?_, by simp⟩
  simp only [D.apph, List.cons_ne_nil, if_false, D.cellsAt, h2, Option.bind_some]
  rw [if_pos (by unfold maxLen; simp [allCells, D.cells, cellsL, D.one]; omega)]
  simp [cellsL, D.cells]

theorem c87 (a : Akt) {n : Nat} {p : Int} (hn : bs[n]? = some (.blk 3 1 [I p])) : FSpecR Try.prog 87 (.st bs) [a.d, .loc n 0] (B (a.kind == 1 && a.paper == p)) := by
 refine ku87.R rfl rfl ?_
 unfold u87
 simp only [ups_cons, ups_nil, List.cons_append, List.nil_append]
 repeat' (first | ((with_reducible apply nrm); (· simp only [sbe]; rfl)) | ((with_reducible apply u_chk); (· rfl)) | ((with_reducible apply u_ld); (· rfl); (· rfl); (· exact ld_blk hn rfl); (· simp only [sbe]; rfl)) | ((with_reducible apply u_ev); (· rfl); (· simp only [sbe]; rfl)) | ((with_reducible apply u_and); (· rfl)) | (with_reducible exact u_ret rfl rfl) | ((with_reducible intro hz); (try simp only [sbs] at hz)))

def lowI (l : List Akt) (m : Int) (k p : Nat) : List Nat := (idxOf l k p).filter fun i => decide ((nth l i).minute ≤ m)

def gcase (c : Cod) (l : List Akt) (m : Int) (s : Gs) (k : Nat) : Gs :=
 if frB c l k m = true then ((((lowI l m k (pk l k)).foldl (fun s i => s.push (i : Int)) s).var (nth l (pk l k)).paper).push (fi (isPub (nth l (pk l k)).paper) l)) else s

def gnums (c : Cod) (l : List Akt) (m : Int) (k : Nat) : List Int :=
 if frB c l k m = true then (lowI l m k (pk l k)).map (fun (i : Nat) => (i : Int)) ++ [fi (isPub (nth l (pk l k)).paper) l] else []

theorem pushes_lst (r : List Nat) : ∀ s : Gs, (r.foldl (fun s i => s.push (i : Int)) s).lst = s.lst ++ r.map fun (i : Nat) => (i : Int) := by
 induction r with
 | nil => intro s; simp
 | cons i r ih => intro s; rw [List.foldl_cons, ih, Gs.push_lst]; simp

theorem pushes_ok {base : List D} (r : List Nat) : ∀ s : Gs, s.Ok base → (r.foldl (fun s i => s.push (i : Int)) s).Ok base := by
 induction r with
 | nil => intro s h; exact h
 | cons i r ih => intro s h; exact ih _ (h.push _)

theorem gcase_lst (c : Cod) (l : List Akt) (m : Int) (s : Gs) (k : Nat) : (gcase c l m s k).lst = s.lst ++ gnums c l m k := by
 unfold gcase gnums
 split
 ·rw [Gs.push_lst]
  show (Gs.lst _) ++ _ = _
  unfold Gs.var
  simp only
  rw [pushes_lst]
  simp
 ·simp

theorem gcase_ok {base : List D} {s : Gs} (h : s.Ok base) (c : Cod) (l : List Akt) (m : Int) (k : Nat) : (gcase c l m s k).Ok base := by
 unfold gcase
 split
 ·exact ((pushes_ok _ _ h).var _).push _
 ·exact h

theorem gall_lst (c : Cod) (l : List Akt) (m : Int) (r : List Nat) : ∀ s : Gs, (r.foldl (gcase c l m) s).lst = s.lst ++ r.flatMap (gnums c l m) := by
 induction r with
 | nil => intro s; simp
 | cons k r ih => intro s; rw [List.foldl_cons, ih, gcase_lst]; simp

theorem gall_ok {base : List D} (c : Cod) (l : List Akt) (m : Int) (r : List Nat) : ∀ s : Gs, s.Ok base → (r.foldl (gcase c l m) s).Ok base := by
 induction r with
 | nil => intro s h; exact h
 | cons k r ih => intro s h; exact ih _ (gcase_ok h c l m k)

def gl (c : Cod) (l : List Akt) (car m : Int) : List Int := (ags l car m).flatMap (gnums c l m)

theorem gnums_len (c : Cod) (l : List Akt) (m : Int) (k : Nat) : (gnums c l m k).length ≤ 6 := by
 unfold gnums
 split
 ·have h1 := List.length_filter_le (fun i => decide ((nth l i).minute ≤ m)) (idxOf l k (pk l k))
  have h2 := idx_len (l := l) (k := k) (p := pk l k)
  unfold lowI
  simp
  omega
 ·simp

theorem flat_len (c : Cod) (l : List Akt) (m : Int) : ∀ r : List Nat, (r.flatMap (gnums c l m)).length ≤ 6 * r.length
 | [] => by simp
 | k :: r => by
  have h1 := flat_len c l m r
  have h2 := gnums_len c l m k
  rw [List.flatMap_cons, List.length_append, List.length_cons]
  omega

theorem ev_apps2 {x y z w : E} {env : List D} {dx dy dz d d2 : D} (hx : x.eval env = some dx) (hy : y.eval env = some dy) (hz : z.eval env = some dz) (h : D.apps dx dy dz = some d) (hw : w.eval env = some d2) : evalAll env [.apps x y z, w] = some [d, d2] := by
 simp only [evalAll, E.eval, hx, hy, hz, hw, h, Option.bind_some]
 rfl

theorem c49 (k88 : ∀ {bs : List D} {b : Nat} {e : TypeId} {xs : List Int}, bs[b]? = some (.blk e 1 (xs.map I)) → xs.length < 4611686018427387904 → FSpecW Try.prog 88 (.st bs) [.sl b 0 xs.length] (.tup []) (.st (bs.set b (.blk e 1 ((xs.mergeSort fun x y => decide (x ≤ y)).map I)))))
  (k88n : ∀ {bs : List D}, FSpecW Try.prog 88 (.st bs) [.snil] (.tup []) (.st bs))
  (k89 : ∀ {bs : List D} {b : Nat} {e : TypeId} {xs : List Int}, bs[b]? = some (.blk e 1 (xs.map I)) → xs.length ≤ 9223372036854775807 → (Lib.compact xs).length ≤ xs.length → FSpecW Try.prog 89 (.st bs) [.sl b 0 xs.length] (.sl b 0 (Lib.compact xs).length) (.st (bs.set b (.blk e 1 ((Lib.compact xs).map I)))))
  (k89n : ∀ {bs : List D}, FSpecW Try.prog 89 (.st bs) [.snil] .snil (.st bs))
  (hA : Acc c l) {sa sf : D} {fs : List (Int × D)} (h : Crt bs F j c l (qOf l) sa sf fs) (car m : Int) (hr : penB c car m = true) :
  ∃ (g : D) (B : List D), FSpecW Try.prog 49 (.st bs) [.loc j 0, I car, I m] (.tup [g, I 0]) (.st B) ∧ SlOf B 3 1 (fun x : Int => [I x]) g (uniq (gl c l car m)) ∧ bs.length ≤ B.length ∧ ∀ k, k < bs.length → B[k]? = bs[k]? := by
 have hI := inv_of l hA
 have hlen := hI.len
 have hfl : fs.length = (pro l).length := by rw [h.len, qOf_len]
 have hpl : (pro l).length ≤ l.length := by unfold pro; have := prot_len l l.length; omega
 have h74 := c74 h.acts car m
 unfold penB at hr
 rw [if_pos hr] at h74
 have hm : 0 ≤ m ∧ m ≤ 10000000 := by
  simp only [Bool.and_eq_true] at hr
  have := hr.2
  unfold inR at this
  simpa using this
 have hb : i64 m := ⟨by omega, by omega⟩
 have hmM : m ≤ MM := by unfold MM; omega
 have h75 := c75 hA h car m
 have hagl : (ags l car m).length ≤ 2000 := by
  have := List.length_filter_le (agP l car m) (List.range (pro l).length)
  rw [List.length_range] at this
  unfold ags
  omega
 obtain ⟨s0, hs0⟩ : ∃ s0 : Gs, s0 = ⟨bs, 0, []⟩ := ⟨_, rfl⟩
 have ok0 : s0.Ok bs := by rw [hs0]; exact ⟨Nat.le_refl _, fun _ _ => rfl, fun h => absurd rfl h⟩
 obtain ⟨sn, hsn⟩ : ∃ sn, sn = (ags l car m).foldl (gcase c l m) s0 := ⟨_, rfl⟩
 have okn : sn.Ok bs := by rw [hsn]; exact gall_ok c l m _ _ ok0
 have lstn : sn.lst = gl c l car m := by rw [hsn, gall_lst, hs0]; rfl
 have hgl : (gl c l car m).length ≤ 12000 := by
  have := flat_len c l m (ags l car m)
  unfold gl
  omega
 have walk : ∀ (g : D) (B B1 : List D), FSpecW Try.prog 88 (.st sn.bs) [sn.out] (.tup []) (.st B1) → FSpecW Try.prog 89 (.st B1) [sn.out] g (.st B) → g.one = true → FSpecW Try.prog 49 (.st bs) [.loc j 0, I car, I m] (.tup [g, I 0]) (.st B) := by
  intro g B B1 q88 q89 hg
  refine ku49.W rfl ?_
  unfold u49
  simp only [ups_cons, ups_nil, List.cons_append, List.nil_append]
  repeat' (first | ((with_reducible apply u_iteF); (· rfl); (· exact rfl)) | ((with_reducible apply u_lenL); (· rfl); (· exact lenL_map); (· simp only [sbe]; rfl)) | ((with_reducible apply u_ev); (· rfl); (· simp only [sbe]; rfl)) | ((with_reducible apply u_call); (· rfl); (· rfl); (· first | exact h74 | exact h75); (· rfl); (· simp only [sbe]; rfl)) | (with_reducible refine u_join ?_))
  refine u_list (ags l car m) (fun (s : Gs) i => [s.out, I i, .st s.bs]) (fun r s => r.foldl (gcase c l m) s = sn ∧ s.Ok bs ∧ s.lst.length + 6 * r.length ≤ 12000) s0 (by rw [hs0]; rfl) (fun _ _ => rfl) ⟨hsn.symm, ok0, by rw [hs0]; simp; omega⟩ (fun i k s hx hlt hG R hR => ?_) (fun s hG R => ?_)
  ·obtain ⟨g1, g2, g3⟩ := hG
   simp only [List.length_cons] at g3
   rw [List.foldl_cons] at g1
   obtain ⟨hk1, hk2, hk3⟩ := ags_mem (List.mem_of_getElem? hx)
   obtain ⟨p, hp⟩ : ∃ p, (pro l)[k]? = some p := ⟨_, List.getElem?_eq_getElem hk1⟩
   have hpk : pk l k = p := by unfold pk; simp [hp]
   rw [hpk] at hk2 hk3
   obtain ⟨sk, hF⟩ := h.caseAt hA hp
   have hFs := hF.sl
   obtain ⟨b1, rfl, hb1⟩ := hFs.get (List.length_pos_iff.2 hF.ne)
   have hact := h.acts.2
   obtain ⟨b2, rfl, hb2⟩ := hact.get hF.pl
   have kp : ∀ {t : Gs}, t.Ok bs → ∀ {i : Nat} {X : D}, bs[i]? = some X → t.bs[i]? = some X := fun ok i X hX => by
    rw [ok.old i (List.getElem?_eq_some_iff.1 hX).1]; exact hX
   have ks : ∀ {t : Gs}, t.Ok bs → ActsAt t.bs j c l (.sl b2 0 l.length) sf := fun ok => ⟨kp ok h.acts.1, .inr ⟨b2, rfl, kp ok hb2⟩⟩
   have hfx : fD fs k = .agg [I p, .sl b1 0 (idxOf l k p).length] := by unfold fD; simp [hF.fk]; rfl
   have h76 := c76 hI (ks g2) hp hmM hk2 hb (s := .sl b1 0 (idxOf l k p).length) (.inr ⟨b1, rfl, kp g2 hb1⟩) hF.lt hF.len
   have hli : decide ((i : Int) < ((ags l car m).length : Int)) = true := by simp; omega
   have heak := eaddr_lst (xs := ags l car m) (enc := fD fs) (sz := 2) hx rfl
   rw [hfx] at heak
   cases hfr : frB c l k m
   ·have e : gcase c l m s k = s := by unfold gcase; rw [hfr]; rfl
    rw [e] at g1
    rw [hfr] at h76
    repeat' (first | ((with_reducible apply nrm); (· simp only [sbe]; rfl)) | ((with_reducible apply u_iteT); (· rfl); (· first | exact hli | exact rfl)) | ((with_reducible apply u_chk); (· rfl)) | ((with_reducible apply u_eaddr); (· rfl); (· rfl); (· exact heak); (· simp only [sbe]; rfl)) | ((with_reducible apply u_inc); (· rfl); (· omega); (· simp only [sbe]; rfl)) | ((with_reducible apply u_ev); (· rfl); (· simp only [sbe]; rfl)) | ((with_reducible apply u_call); (· rfl); (· rfl); (· exact h76); (· rfl); (· simp only [sbe]; rfl)) | (with_reducible refine u_join ?_) | ((with_reducible apply u_jump); (· rfl); (· rfl)) | (with_reducible refine at_jump ?_) | (with_reducible refine kj rfl ?_))
    exact hR s ⟨g1, g2, by omega⟩
   ·rw [hfr] at h76
    obtain ⟨s1, hs1⟩ : ∃ s1, s1 = (lowI l m k p).foldl (fun s i => s.push (i : Int)) s := ⟨_, rfl⟩
    have ok1 : s1.Ok bs := by rw [hs1]; exact pushes_ok _ _ g2
    have e : gcase c l m s k = (s1.var (nth l p).paper).push (fi (isPub (nth l p).paper) l) := by unfold gcase; rw [hfr, hpk, hs1]; rfl
    rw [e] at g1
    have hix := idx_len (l := l) (k := k) (p := p)
    have hlow : (lowI l m k p).length ≤ 5 := by
     have h1 := List.length_filter_le (fun i => decide ((nth l i).minute ≤ m)) (idxOf l k p)
     unfold lowI
     omega
    have l1 : s1.lst.length ≤ s.lst.length + 5 := by rw [hs1, pushes_lst]; simp; omega
    repeat' (first | ((with_reducible apply nrm); (· simp only [sbe]; rfl)) | ((with_reducible apply u_iteT); (· rfl); (· exact hli)) | ((with_reducible apply u_iteF); (· rfl); (· exact rfl)) | ((with_reducible apply u_chk); (· rfl)) | ((with_reducible apply u_eaddr); (· rfl); (· rfl); (· exact heak); (· simp only [sbe]; rfl)) | ((with_reducible apply u_ev); (· rfl); (· simp only [sbe]; rfl)) | ((with_reducible apply u_call); (· rfl); (· rfl); (· exact h76); (· rfl); (· simp only [sbe]; rfl)) | (with_reducible refine u_join ?_))
    refine loop_exit [s1.out, .st s1.bs] ?_ ?_
    ·refine u_list (idxOf l k p) (fun (t : Gs) i => [t.out, I i, .st t.bs]) (fun r t => (r.filter fun i => decide ((nth l i).minute ≤ m)).foldl (fun s i => s.push (i : Int)) t = s1 ∧ t.Ok bs ∧ t.lst.length + r.length ≤ 12000) s rfl (fun _ _ => rfl) ⟨hs1.symm, g2, by omega⟩ (fun q x t hx2 hlt2 hG2 R2 hR2 => ?_) (fun t hG2 R2 => ?_)
     ·obtain ⟨f1, f2, f3⟩ := hG2
      simp only [List.length_cons] at f3
      have hxl := hF.lt x (List.mem_of_getElem? hx2)
      have hn := nth_get hxl
      rw [List.filter_cons, hn] at f1
      have hps := f2.push_step (x : Int) (by omega)
      have happ : D.apps (.st t.bs) t.out (.lst [I x]) = some (.sl t.bs.length 0 (t.lst.length + 1)) := by
       unfold Gs.out
       split
       ·rename_i h0; rw [h0]; rfl
       ·rfl
      have hl2 : decide ((q : Int) < ((idxOf l k p).length : Int)) = true := by simp; omega
      by_cases hmx : l[x].minute ≤ m
      ·rw [if_pos (by simpa using hmx)] at f1
       have ht2 : decide (l[x].minute ≤ m) = true := by simp; omega
       have hr2 := hR2 (t.push (x : Int)) ⟨f1, f2.push _, by rw [Gs.push_lst, List.length_append]; simp at f3 ⊢; omega⟩
       rw [hps.2] at hr2
       repeat' (first | ((with_reducible apply nrm); (· simp only [sbe]; rfl)) | ((with_reducible apply u_iteT); (· rfl); (· first | exact hl2 | exact ht2)) | ((with_reducible apply u_chk); (· rfl)) | ((with_reducible apply u_ld); (· rfl); (· rfl); (· first | exact ld_el0 (kp f2 hb1) (fun _ => rfl) hx2 rfl | exact ld_blk (kp f2 h.acts.1) rfl | exact ld_elc (kp f2 hb2) (fun _ => rfl) (List.getElem?_eq_getElem hxl) rfl); (· simp only [sbe]; rfl)) | ((with_reducible apply u_eaddr); (· rfl); (· rfl); (· first | exact eaddr_sl hlt2 | exact eaddr_sl hxl); (· simp only [sbe]; rfl)) | ((with_reducible apply u_apph); (· rfl); (· rfl); (· rfl); (· exact hps.1); (· simp only [sbe]; rfl)) | ((with_reducible apply u_inc); (· rfl); (· omega); (· simp only [sbe]; rfl)) | ((with_reducible apply u_ev); (· rfl); (· simp only [sbe]; rfl)) | (with_reducible refine u_join ?_) | ((with_reducible apply u_jump); (· rfl); (· exact ev_apps2 rfl rfl rfl happ rfl)) | ((with_reducible apply u_jump); (· rfl); (· rfl)) | (with_reducible refine at_jump ?_) | (with_reducible refine kj rfl ?_))
       exact hr2
      ·rw [if_neg (by simpa using hmx)] at f1
       have hf2 : decide (l[x].minute ≤ m) = false := by simp; omega
       repeat' (first | ((with_reducible apply nrm); (· simp only [sbe]; rfl)) | ((with_reducible apply u_iteT); (· rfl); (· exact hl2)) | ((with_reducible apply u_iteF); (· rfl); (· exact hf2)) | ((with_reducible apply u_chk); (· rfl)) | ((with_reducible apply u_ld); (· rfl); (· rfl); (· first | exact ld_el0 (kp f2 hb1) (fun _ => rfl) hx2 rfl | exact ld_blk (kp f2 h.acts.1) rfl | exact ld_elc (kp f2 hb2) (fun _ => rfl) (List.getElem?_eq_getElem hxl) rfl); (· simp only [sbe]; rfl)) | ((with_reducible apply u_eaddr); (· rfl); (· rfl); (· first | exact eaddr_sl hlt2 | exact eaddr_sl hxl); (· simp only [sbe]; rfl)) | ((with_reducible apply u_inc); (· rfl); (· omega); (· simp only [sbe]; rfl)) | ((with_reducible apply u_ev); (· rfl); (· simp only [sbe]; rfl)) | (with_reducible refine u_join ?_) | ((with_reducible apply u_jump); (· rfl); (· rfl)) | (with_reducible refine at_jump ?_) | (with_reducible refine kj rfl ?_))
       exact hR2 t ⟨f1, f2, by omega⟩
     ·obtain ⟨f1, f2, f3⟩ := hG2
      have f1' : t = s1 := f1
      subst f1'
      have hl2 : decide (((idxOf l k p).length : Int) < ((idxOf l k p).length : Int)) = false := by simp
      repeat' (first | ((with_reducible apply nrm); (· simp only [sbe]; rfl)) | ((with_reducible apply u_iteF); (· rfl); (· exact hl2)) | ((with_reducible apply u_ev); (· rfl); (· simp only [sbe]; rfl)) | ((with_reducible apply u_jump); (· rfl); (· rfl)) | (with_reducible refine at_jump ?_) | (with_reducible refine over_jump (by decide) ?_))
      rfl
    ·refine kj rfl ?_
     have hpl2 := hF.pl
     have hn := nth_get hpl2
     rw [hn] at e g1
     have ok2 := ok1.var l[p].paper
     have hsto := sto_var (bs := s1.bs) (e := 3) (sz := 1) (d0 := I 0) (r := []) (d := I l[p].paper) rfl
     have hA1 : D.ld false 1 (.st s1.bs) (.loc j 7) = some (.sl b2 0 l.length) := ld_blk (kp ok1 h.acts.1) rfl
     have hA2 : D.ld false 1 (.st (s1.var l[p].paper).bs) (.loc j 7) = some (.sl b2 0 l.length) := ld_blk (kp ok2 h.acts.1) rfl
     have hP1 : D.ld false 1 (.st s1.bs) (.loc b2 (p * 12 + 2)) = some (I l[p].paper) := ld_elc (kp ok1 hb2) (fun _ => rfl) (List.getElem?_eq_getElem hpl2) rfl
     have hP2 : D.ld false 1 (.st (s1.var l[p].paper).bs) (.loc b2 (p * 12 + 2)) = some (I l[p].paper) := ld_elc (kp ok2 hb2) (fun _ => rfl) (List.getElem?_eq_getElem hpl2) rfl
     have ok3 := ok1.var 0
     have hA3 : D.ld false 1 (.st (s1.var 0).bs) (.loc j 7) = some (.sl b2 0 l.length) := ld_blk (kp ok3 h.acts.1) rfl
     have hP3 : D.ld false 1 (.st (s1.var 0).bs) (.loc b2 (p * 12 + 2)) = some (I l[p].paper) := ld_elc (kp ok3 hb2) (fun _ => rfl) (List.getElem?_eq_getElem hpl2) rfl
     have hvar : (s1.var l[p].paper).bs[s1.bs.length]? = some (.blk 3 1 [I l[p].paper]) := by unfold Gs.var; simp
     have h86 := c86 (P := isPub l[p].paper) (f := 87) (us := []) (cs := [.loc s1.bs.length 0]) (ks ok2).2 (by omega) rfl (fun i hi => c87 l[i] hvar)
     have hps := ok2.push_step (fi (isPub l[p].paper) l) (by show s1.lst.length + 1 ≤ _; omega)
     have happ : D.apps (.st (s1.var l[p].paper).bs) s1.out (.lst [I (fi (isPub l[p].paper) l)]) = some (.sl (s1.var l[p].paper).bs.length 0 (s1.lst.length + 1)) := by
      unfold Gs.out
      split
      ·rename_i h0; rw [h0]; rfl
      ·rfl
     have hr2 := hR ((s1.var l[p].paper).push (fi (isPub l[p].paper) l)) ⟨g1, ok2.push _, by rw [Gs.push_lst, List.length_append]; show s1.lst.length + 1 + _ ≤ _; omega⟩
     rw [hps.2] at hr2
     have eout : (s1.var l[p].paper).out = s1.out := rfl
     rw [eout] at hps
     repeat' (first | ((with_reducible apply nrm); (· simp only [sbe]; rfl)) | ((with_reducible apply u_chk); (· rfl)) | ((with_reducible apply u_same); (· first | exact e_ld rfl rfl hA1 | exact e_ld rfl rfl hP1); (· first | exact e_ld rfl rfl hA3 | exact e_ld rfl rfl hP3); (· simp [D.same, Value.same]); (· simp only [sbe]; rfl)) | ((with_reducible apply u_ld); (· rfl); (· rfl); (· first | exact hA1 | exact hA2 | exact hP1); (· simp only [sbe]; rfl)) | ((with_reducible apply u_eaddr); (· rfl); (· rfl); (· exact eaddr_sl hpl2); (· simp only [sbe]; rfl)) | ((with_reducible apply u_sto); (· rfl); (· rfl); (· rfl); (· exact hsto); (· simp only [sbe]; rfl)) | ((with_reducible apply u_apph); (· rfl); (· rfl); (· rfl); (· exact hps.1); (· simp only [sbe]; rfl)) | ((with_reducible apply u_inc); (· rfl); (· omega); (· simp only [sbe]; rfl)) | ((with_reducible apply u_ev); (· rfl); (· simp only [sbe]; rfl)) | ((with_reducible apply u_call); (· rfl); (· rfl); (· exact h86); (· rfl); (· simp only [sbe]; rfl)) | ((with_reducible apply u_jump); (· rfl); (· exact ev_apps2 rfl rfl rfl happ rfl)) | ((with_reducible apply u_jump); (· rfl); (· rfl)) | (with_reducible refine at_jump ?_) | (with_reducible refine kj rfl ?_))
     exact hr2
  ·obtain ⟨g1, g2, g3⟩ := hG
   have g1' : s = sn := g1
   subst g1'
   have hli : decide (((ags l car m).length : Int) < ((ags l car m).length : Int)) = false := by simp
   repeat' (first | ((with_reducible apply nrm); (· simp only [sbe]; rfl)) | ((with_reducible apply u_iteF); (· rfl); (· exact hli)) | ((with_reducible apply u_ev); (· rfl); (· simp only [sbe]; rfl)) | ((with_reducible apply u_wcall); (· rfl); (· rfl); (· exact q88); (· rfl); (· simp only [sbe]; rfl)) | ((with_reducible apply u_jump); (· rfl); (· rfl)) | (with_reducible refine at_jump ?_) | (with_reducible refine over_jump (by decide) ?_) | (with_reducible refine kj rfl ?_))
   refine u_wcall rfl rfl q89 (by simpa [D.fits] using hg) (by simp only [sbe]; rfl) ?_
   repeat' ((with_reducible exact u_ret rfl rfl))
 by_cases h0 : gl c l car m = []
 ·have hout : sn.out = .snil := by unfold Gs.out; rw [lstn, if_pos h0]
  refine ⟨.snil, sn.bs, walk _ _ sn.bs (by rw [hout]; exact k88n) (by rw [hout]; exact k89n) rfl, ?_, okn.len, okn.old⟩
  rw [h0]
  exact .inl ⟨by simp [uniq, Lib.compact, Lib.compactUpTo], rfl⟩
 ·obtain ⟨r1, r2⟩ := okn.row (by rw [lstn]; exact h0)
  have hout : sn.out = .sl sn.o 0 (gl c l car m).length := by unfold Gs.out; rw [lstn, if_neg h0]
  rw [lstn] at r2
  have hol := (List.getElem?_eq_some_iff.1 r2).1
  have q88 := k88 r2 (by omega)
  obtain ⟨st, hst⟩ : ∃ st, st = (gl c l car m).mergeSort fun x y => decide (x ≤ y) := ⟨_, rfl⟩
  have hsl : st.length = (gl c l car m).length := by rw [hst]; simp
  have hu := (uniq_ok (gl c l car m)).2.2
  have hue : uniq (gl c l car m) = Lib.compact st := by rw [hst]; rfl
  rw [hue] at hu
  rw [← hst] at q88
  have q89 := k89 (bs := sn.bs.set sn.o (.blk 3 1 (st.map I))) (b := sn.o) (e := 3) (xs := st) (by simp [hol]) (by omega) (by omega)
  rw [hsl] at q89
  refine ⟨_, _, walk _ _ _ (by rw [hout]; exact q88) (by rw [hout]; exact q89) rfl, ?_, by have := okn.len; simpa using this, fun k hk => ?_⟩
  ·rw [hue]
   refine .inr ⟨sn.o, rfl, ?_⟩
   have e2 : (Lib.compact st).flatMap (fun x : Int => [I x]) = (Lib.compact st).map I := by
    generalize Lib.compact st = q
    induction q with
    | nil => rfl
    | cons x q ih => rw [List.flatMap_cons, ih]; rfl
   rw [e2]
   simp [hol]
  ·rw [List.getElem?_set_ne (by omega), List.getElem?_set_ne (by omega), okn.old k hk]

end Go.Am.Ct
