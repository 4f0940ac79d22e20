/-
  Several texts, one behind the other.
-/
import Derived.Test.YtnenlnmfoocpdaaApGr1
import Derived.Test.YtnenlnmfoocpdaaAmSort2
import Derived.Shelf.Sort.Plain
import Derived.Ground.Names2Prog
import Derived.Shelf.Slices.CompactI
import Derived.Shelf.Slices.In.SortNone
import Derived.Test.YtnenlnmfoocpdaaProg
import Derived.Test.YtnenlnmfoocpdaaApKilltoApFee3
import Derived.Test.YtnenlnmfoocpdaaApU4toApCourt4
set_option linter.unusedSimpArgs false
set_option linter.unusedVariables false
/-
 The specification's Grounds; both are the same.
-/
namespace Go.Am.Ct
open Go.Proofs Go.Am.Ap Go.Am.Srt
set_option maxRecDepth 100000
set_option maxHeartbeats 4000000

variable {bs : List D} {j : Nat} {c : Cod} {l : List Akt} {a : Akt} {F : Nat → Prop}

attribute [local irreducible] inR

def touch (l : List Akt) (i k : Nat) : Bool := (((i : Int) == (pk l k : Int)) || (((nth l i).kind != 1 && (nth l i).kind != 2) && ((nth l i).cse == (k : Int)))) || ((i : Int) == fi (isPub (nth l (pk l k)).paper) l)
def metK (c : Cod) (l : List Akt) (car m : Int) (i k : Nat) : Bool := agB l car k && (fB c l k m && touch l i k)
def metB (c : Cod) (l : List Akt) (car m : Int) (i : Nat) : Bool := decide ((nth l i).minute ≤ m) && (List.range (pro l).length).any (metK c l car m i)
def gR (c : Cod) (l : List Akt) (car m : Int) : List Nat := (List.range l.length).filter (metB c l car m)

theorem pub_before (hA : Acc c l) {p : Nat} (hp : p < l.length) (h2 : (nth l p).kind = 2) : ∃ i : Nat, fi (isPub (nth l p).paper) l = i ∧ i < p := by
 have g := (good_of (hA p hp)).prt h2
 rcases fi_cases (isPub (nth l p).paper) (l.take p) with ⟨h, _⟩ | ⟨i, hi, h, hP, hn⟩
 ·omega
 ·have hi2 : i < p := by simp at hi; omega
  refine ⟨i, fi_at (by omega) ?_ (fun k hk => ?_), hi2⟩
  ·rw [List.getElem_take] at hP
   exact hP
  ·have := hn k hk
   rw [List.getElem_take] at this
   exact this

theorem mem_opt {x : Int} {i : Nat} : i ∈ opt x ↔ x = i := by
 unfold opt
 split
 ·rename_i h
  simp
  omega
 ·rename_i h
  simp
  omega

theorem gl_mem (hA : Acc c l) {car m : Int} (hm : m ≤ MM) (x : Int) : x ∈ (gR c l car m).map (fun i : Nat => (i : Int)) ↔ x ∈ gl c l car m := by
 have hI := inv_of l hA
 have hpkn : ∀ k, k < (pro l).length → (nth l (pk l k)).kind = 2 := fun k hk => by rw [pk_get hk]; exact pro_kind (List.getElem_mem _)
 constructor
 ·intro hx
  obtain ⟨i, hi, rfl⟩ := List.mem_map.1 hx
  unfold gR at hi
  rw [List.mem_filter, List.mem_range] at hi
  obtain ⟨hil, hi⟩ := hi
  unfold metB at hi
  rw [Bool.and_eq_true, decide_eq_true_eq, List.any_eq_true] at hi
  obtain ⟨him, k, hk, hi⟩ := hi
  rw [List.mem_range] at hk
  unfold metK at hi
  simp only [Bool.and_eq_true] at hi
  obtain ⟨h1, h2, h3⟩ := hi
  unfold fB at h2
  rw [Bool.and_eq_true] at h2
  have hth : (nth l (pk l k)).minute ≤ m := by
   rcases Decidable.em ((nth l (pk l k)).minute ≤ m) with h | h
   ·exact h
   ·rw [there_no' h] at h2; cases h2.1
  have hka : k ∈ ags l car m := by
   unfold ags
   rw [List.mem_filter, List.mem_range]
   refine ⟨hk, ?_⟩
   unfold agP
   unfold agB at h1
   rw [h1, decide_eq_true hth]
   rfl
  unfold gl
  rw [List.mem_flatMap]
  refine ⟨k, hka, ?_⟩
  unfold gnums
  rw [if_pos h2.2, List.mem_append]
  unfold touch at h3
  simp only [Bool.or_eq_true, Bool.and_eq_true, beq_iff_eq, bne_iff_ne, ne_eq] at h3
  rcases h3 with (h3 | h3) | h3
  ·left
   have e : i = pk l k := by omega
   rw [List.mem_map]
   refine ⟨i, ?_, rfl⟩
   unfold lowI
   rw [List.mem_filter]
   exact ⟨by rw [e]; simp [idxOf], by simpa using him⟩
  ·left
   have hok := hI.ok i hil
   have hkd := actOk_kind hok
   have hu := hI.uniq i hil (by omega)
   rw [h3.2] at hu
   rw [List.mem_map]
   refine ⟨i, ?_, rfl⟩
   unfold lowI
   rw [List.mem_filter]
   refine ⟨?_, by simpa using him⟩
   have hkd2 : (nth l i).kind = 3 ∨ (nth l i).kind = 4 ∨ (nth l i).kind = 5 ∨ (nth l i).kind = 6 := by omega
   unfold idxOf
   simp only [List.mem_cons, List.mem_append, mem_opt]
   rcases hkd2 with e | e | e | e <;> rw [e] at hu
   ·exact .inr (.inl hu.symm)
   ·exact .inr (.inr (.inl hu.symm))
   ·exact .inr (.inr (.inr (.inl hu.symm)))
   ·exact .inr (.inr (.inr (.inr hu.symm)))
  ·right
   simp [h3]
 ·intro hx
  unfold gl at hx
  rw [List.mem_flatMap] at hx
  obtain ⟨k, hk, hx⟩ := hx
  obtain ⟨hk1, hk2, hk3⟩ := ags_mem hk
  have hpl := pk_lt hk1
  have h2 := hpkn k hk1
  unfold gnums at hx
  split at hx
  ·rename_i hfr
   have hagb : agB l car k = true := by unfold agB; simpa using hk3
   have hfb : fB c l k m = true := by unfold fB; rw [there_yes' hk1 hk2, hfr]; rfl
   have fin : ∀ i : Nat, i < l.length → (nth l i).minute ≤ m → touch l i k = true → (i : Int) ∈ (gR c l car m).map (fun i : Nat => (i : Int)) := fun i hil him ht => by
    rw [List.mem_map]
    refine ⟨i, ?_, rfl⟩
    unfold gR
    rw [List.mem_filter, List.mem_range]
    refine ⟨hil, ?_⟩
    unfold metB
    rw [decide_eq_true him, Bool.true_and, List.any_eq_true]
    refine ⟨k, List.mem_range.2 hk1, ?_⟩
    unfold metK
    rw [hagb, hfb, ht]
    rfl
   rcases List.mem_append.1 hx with hx | hx
   ·obtain ⟨i, hi, rfl⟩ := List.mem_map.1 hx
    unfold lowI at hi
    rw [List.mem_filter, decide_eq_true_eq] at hi
    obtain ⟨hi, him⟩ := hi
    have hp : (pro l)[k]? = some (pk l k) := by rw [pk_get hk1]; exact List.getElem?_eq_getElem hk1
    have hil := idx_lt hp i hi
    refine fin i hil him ?_
    have own : ∀ kd : Int, 3 ≤ kd → rlast l kd k MM = i → touch l i k = true := fun kd h3 hr => by
     obtain ⟨i2, e1, _, e2, e3⟩ := at_of (show 0 ≤ rlast l kd k MM by omega)
     have : i2 = i := by omega
     subst this
     unfold touch
     have q1 : ((nth l i2).kind != 1) = true := by simp; omega
     have q2 : ((nth l i2).kind != 2) = true := by simp; omega
     have q3 : ((nth l i2).cse == (k : Int)) = true := by simp [e3]
     rw [q1, q2, q3]
     simp
    unfold idxOf at hi
    simp only [List.mem_cons, List.mem_append, mem_opt] at hi
    rcases hi with rfl | hi | hi | hi | hi
    ·unfold touch; simp
    ·exact own 3 (by omega) hi
    ·exact own 4 (by omega) hi
    ·exact own 5 (by omega) hi
    ·exact own 6 (by omega) hi
   ·obtain ⟨i, e, hip⟩ := pub_before hA hpl h2
    simp at hx
    rw [e] at hx
    subst hx
    refine fin i (by omega) ?_ ?_
    ·have := hI.sorted i (pk l k) (by omega) hpl
     omega
    ·unfold touch
     rw [e]
     simp
  ·cases hx

theorem gr_eq (hA : Acc c l) {car m : Int} (hm : m ≤ MM) : uniq (gl c l car m) = (gR c l car m).map fun i : Nat => (i : Int) := by
 refine uniq_eq ?_ fun x => gl_mem hA hm x
 rw [List.pairwise_map]
 unfold gR
 exact (List.pairwise_lt_range.filter _).imp fun h => by omega

end Go.Am.Ct

/-
 The library's Sort and Compact at this program's numbers (written by the kit's lay-plain).
-/
namespace Go.Proofs
open Go.Shelf
def Try.lays189_ren : Go.Shelf.Ren := ⟨fun | 189 => 88 | 125 => 107 | 257 => 106 | 128 => 120 | 129 => 121 | 294 => 111 | 295 => 112 | 296 => 113 | 297 => 114 | 298 => 115 | 299 => 116 | 216 => 117 | 300 => 118 | 301 => 119 | 328 => 123 | 329 => 124 | 330 => 125 | 331 => 126 | 332 => 127 | 215 => 104 | 343 => 130 | n => n, fun | 28 => 22 | 3 => 3 | 46 => 147 | 0 => 0 | 51 => 158 | 53 => 160 | 4 => 4 | 183 => 151 | 182 => 150 | 131 => 59 | 5 => 5 | 9 => 9 | 218 => 162 | 222 => 166 | 228 => 170 | 229 => 171 | n => n, fun | n => n⟩
theorem Try.lays189 : Go.Proofs.Lays.n189 Try.prog Try.lays189_ren := {
 mixed := by kernel_rfl
 f125 := Try.func107.trans (congrArg some (by kernel_rfl))
 f128 := Try.func120.trans (congrArg some (by kernel_rfl))
 f129 := Try.func121.trans (congrArg some (by kernel_rfl))
 f189 := Try.func88.trans (congrArg some (by kernel_rfl))
 f215 := Try.func104.trans (congrArg some (by kernel_rfl))
 f216 := Try.func117.trans (congrArg some (by kernel_rfl))
 f257 := Try.func106.trans (congrArg some (by kernel_rfl))
 f294 := Try.func111.trans (congrArg some (by kernel_rfl))
 f295 := Try.func112.trans (congrArg some (by kernel_rfl))
 f296 := Try.func113.trans (congrArg some (by kernel_rfl))
 f297 := Try.func114.trans (congrArg some (by kernel_rfl))
 f298 := Try.func115.trans (congrArg some (by kernel_rfl))
 f299 := Try.func116.trans (congrArg some (by kernel_rfl))
 f300 := Try.func118.trans (congrArg some (by kernel_rfl))
 f301 := Try.func119.trans (congrArg some (by kernel_rfl))
 f328 := Try.func123.trans (congrArg some (by kernel_rfl))
 f329 := Try.func124.trans (congrArg some (by kernel_rfl))
 f330 := Try.func125.trans (congrArg some (by kernel_rfl))
 f331 := Try.func126.trans (congrArg some (by kernel_rfl))
 f332 := Try.func127.trans (congrArg some (by kernel_rfl))
 f343 := Try.func130.trans (congrArg some (by kernel_rfl))
 t0 := Try.underlying0
 a0 := Try.isAgg0
 z0 := Try.sizeOf0
 v0 := Try.zeroValue0
 t3 := Try.underlying3
 a3 := Try.isAgg3
 z3 := Try.sizeOf3
 v3 := Try.zeroValue3
 t4 := Try.underlying4
 a4 := Try.isAgg4
 z4 := Try.sizeOf4
 v4 := Try.zeroValue4
 t5 := Try.underlying5
 a5 := Try.isAgg5
 z5 := Try.sizeOf5
 v5 := Try.zeroValue5
 t9 := Try.underlying9
 a9 := Try.isAgg9
 z9 := Try.sizeOf9
 v9 := Try.zeroValue9
 t28 := Try.underlying22
 a28 := Try.isAgg22
 z28 := Try.sizeOf22
 v28 := Try.zeroValue22
 t46 := Try.underlying147
 a46 := Try.isAgg147
 z46 := Try.sizeOf147
 v46 := Try.zeroValue147
 t51 := Try.underlying158
 a51 := Try.isAgg158
 z51 := Try.sizeOf158
 v51 := Try.zeroValue158
 t53 := Try.underlying160
 a53 := Try.isAgg160
 z53 := Try.sizeOf160
 v53 := Try.zeroValue160
 t131 := Try.underlying59
 a131 := Try.isAgg59
 z131 := Try.sizeOf59
 v131 := Try.zeroValue59
 t182 := Try.underlying150
 a182 := Try.isAgg150
 z182 := Try.sizeOf150
 v182 := Try.zeroValue150
 t183 := Try.underlying151
 a183 := Try.isAgg151
 z183 := Try.sizeOf151
 v183 := Try.zeroValue151
 t218 := Try.underlying162
 a218 := Try.isAgg162
 z218 := Try.sizeOf162
 v218 := Try.zeroValue162
 t222 := Try.underlying166
 a222 := Try.isAgg166
 z222 := Try.sizeOf166
 v222 := Try.zeroValue166
 t228 := Try.underlying170
 a228 := Try.isAgg170
 z228 := Try.sizeOf170
 v228 := Try.zeroValue170
 t229 := Try.underlying171
 a229 := Try.isAgg171
 z229 := Try.sizeOf171
 v229 := Try.zeroValue171 }
open Go.Sort Go.RowKit in
theorem Try.slices_Sort_int (blk off cap : Nat) (zs : List Int) (w : World) (hH : Holds (Value.int .i64) w blk off zs.toArray) (hblk : blk < w.heap.size) (hsz : zs.length < 4611686018427387904) :
  Calls Try.prog 88 #[.slice (some ⟨blk, off, none⟩) zs.length cap] w fun e w' =>
   e = .returned (.tuple #[]) ∧ ∃ n os, w' = grow (putRow (Value.int .i64) (Sort.ahead w n) blk off (zs.mergeSort fun x y => decide (x ≤ y)).toArray) os := Any.slices_Sort_int Try.lays189 blk off cap zs w hH hblk hsz
def Try.laysNm220_ren : Go.Shelf.Ren := ⟨fun | 20 => 89 | n => n, fun | 22 => 22 | 3 => 3 | 4 => 4 | 0 => 0 | n => n, fun | n => n⟩
theorem Try.laysNm220 : Go.Proofs.Lays2.n20 Try.prog Try.laysNm220_ren := {
 mixed := by kernel_rfl
 f20 := Try.func89.trans (congrArg some (by kernel_rfl))
 t0 := Try.underlying0
 a0 := Try.isAgg0
 z0 := Try.sizeOf0
 v0 := Try.zeroValue0
 t3 := Try.underlying3
 a3 := Try.isAgg3
 z3 := Try.sizeOf3
 v3 := Try.zeroValue3
 t4 := Try.underlying4
 a4 := Try.isAgg4
 z4 := Try.sizeOf4
 v4 := Try.zeroValue4
 t22 := Try.underlying22
 a22 := Try.isAgg22
 z22 := Try.sizeOf22
 v22 := Try.zeroValue22
 i3 := by kernel_rfl }
open Go.RowKit Go.Lib Go.Sort in

theorem Try.slices_Compact_int_arr (blk off cap : Nat) (d : Array Int) (w : World) (hH : Holds encI w blk off d) (hsz : d.size ≤ 9223372036854775807) (hcap : d.size ≤ cap) :
  Calls Try.prog 89 #[.slice (some ⟨blk, off, none⟩) d.size cap] w fun e w' => e = .returned (.slice (some ⟨blk, off, none⟩) (compactUpTo d d.size).length cap) ∧ ∃ q, w' = putRow encI (Sort.ahead w q) blk off (compactUpTo d d.size ++ List.replicate (d.size - (compactUpTo d d.size).length) 0).toArray := Any.slices_Compact_int_arr Try.laysNm220 blk off cap d w hH hsz hcap
open Go.RowKit Go.Lib Go.Sort in

theorem Try.slices_Compact_int (blk off cap : Nat) (zs : List Int) (w : World) (hH : Holds (Value.int .i64) w blk off zs.toArray) (hsz : zs.length ≤ 9223372036854775807) (hcap : zs.length ≤ cap) :
  Calls Try.prog 89 #[.slice (some ⟨blk, off, none⟩) zs.length cap] w fun e w' => e = .returned (.slice (some ⟨blk, off, none⟩) (Lib.compact zs).length cap) ∧ ∃ q, w' = putRow (Value.int .i64) (Sort.ahead w q) blk off (Lib.compact zs ++ List.replicate (zs.length - (Lib.compact zs).length) 0).toArray := Any.slices_Compact_int Try.laysNm220 blk off cap zs w hH hsz hcap
open Go.RowKit Go.Lib Go.Sort in

theorem Try.slices_Compact_int_empty (a : Option Addr) (cap : Nat) (w : World) :
  Calls Try.prog 89 #[.slice a 0 cap] w fun e w' => e = .returned (.slice a 0 cap) ∧ w' = w := Any.slices_Compact_int_empty Try.laysNm220 a cap w
open Go.RowKit Go.Sort in

theorem Try.slices_Sort_int_none (p : Option Addr) (cap : Nat) (w : World) :
  Calls Try.prog 88 #[.slice p 0 cap] w fun e w' => e = .returned (.tuple #[]) ∧ w' = w := Any.slices_Sort_int_none Try.lays189 p cap w
end Go.Proofs

/-
 The court's Penalty: the walk.
-/
namespace Go.Am.Ct
open Go.Proofs Go.Am.Ap
set_option maxRecDepth 100000
set_option maxHeartbeats 4000000

variable {bs : List D} {j : Nat} {c : Cod} {l : List Akt} {a : Akt} {F : Nat → Prop}

attribute [local irreducible] inR

theorem ysto_noyl (hn : noyls bs = true) (m : Int) (p : Bool) (i : Nat) : noyls (ysto bs c m l p i) = true := by
 unfold ysto
 rw [noyls_app, hn, Bool.true_and]
 refine noyls_all fun d hd => ?_
 rcases List.mem_cons.1 hd with rfl | hd
 ·simp [D.noyl, noyls]
 ·obtain ⟨x, _, rfl⟩ := List.mem_map.1 hd
  simpa [D.noyl] using akt_noyl x

theorem c32 (hA : Acc c l) {sa sf : D} {fs : List (Int × D)} (h : Crt bs F j c l (qOf l) sa sf fs) (hn : noyls bs = true) (car m : Int) (hr : penB c car m = true) : FSpecW Try.prog 32 (.st bs) [.loc j 0, I car, I m] (.tup [I (penR c l car m), B (prvR c l car m), I 0]) (.st (ysto bs c m l ((agC l car).any (cpr c l m)) (upN l m))) := by
 have hI := inv_of l hA
 have hlen := hI.len
 have hpl : (pro l).length ≤ l.length := by unfold pro; have := prot_len l l.length; omega
 have h74 := c74 h.acts car m
 have hr' := hr
 unfold penB at hr'
 rw [if_pos hr'] at h74
 have hm : 0 ≤ m ∧ m ≤ 10000000 := by
  simp only [Bool.and_eq_true] at hr'
  have := hr'.2
  unfold inR at this
  simpa using this
 have hb : i64 m := ⟨by omega, by omega⟩
 have hmM : m ≤ MM := by unfold MM; omega
 have hbd := ctb_bd hI hmM
 have hal : (ags l car m).length ≤ 2000 := by
  have := List.length_filter_le (agP l car m) (List.range (pro l).length)
  unfold ags
  simp at this ⊢
  omega
 have h75 := c75 hA (h.more [.blk 4 1 [B false]]) car m
 refine ku32.W rfl ?_
 unfold u32
 simp only [ups_cons, ups_nil, List.cons_append, List.nil_append]
 repeat' (first | ((with_reducible apply u_iteF); (· rfl); (· exact rfl)) | ((with_reducible apply u_sto); (· rfl); (· rfl); (· rfl); (· exact sto_var (r := []) (by rfl)); (· simp only [sbe]; rfl)) | ((with_reducible apply u_lenL); (· rfl); (· exact lenL_map); (· simp only [sbe]; rfl)) | ((with_reducible apply u_ev); (· rfl); (· simp only [sbe]; rfl)) | ((with_reducible apply u_call); (· rfl); (· rfl); (· first | exact h74 | exact h75); (· rfl); (· simp only [sbe]; rfl)) | (with_reducible refine u_join ?_))
 refine u_list (ags l car m) (fun (s : Int × Bool) i => [I s.1, I i, .st (bs ++ [.blk 4 1 [B s.2]])]) (fun r s => s.1 + (r.map (ctb c l m)).sum = penR c l car m ∧ (s.2 || r.any (cpr c l m)) = (agC l car).any (cpr c l m) ∧ 0 ≤ s.1 ∧ s.1 + 36000000 * r.length ≤ 36000000 * 2000) (0, false) rfl (fun _ _ => rfl) ⟨by simp [ags_sum], by simp [ags_any], by simp, by simp; omega⟩ (fun i x s hx hlt hG R hR => ?_) (fun s hG R => ?_)
 ·obtain ⟨s1, s2⟩ := s
  obtain ⟨g1, g2, g3, g4⟩ := hG
  obtain ⟨hm1, hm2, hm3⟩ := ags_mem (List.mem_of_getElem? hx)
  obtain ⟨p, hp⟩ : ∃ p, (pro l)[x]? = some p := ⟨_, List.getElem?_eq_getElem hm1⟩
  have hX := h.more [.blk 4 1 [B s2]]
  obtain ⟨s, hF⟩ := hX.caseAt hA hp
  have hFs := hF.sl
  obtain ⟨b1, rfl, hb1⟩ := hFs.get (List.length_pos_iff.2 hF.ne)
  have hpk : pk l x = p := by unfold pk; simp [hp]
  have hth := there_yes hm1 hm2
  rw [hpk] at hm2
  have h76 := c76 hI hX.acts hp hmM hm2 hb hFs hF.lt hF.len
  have h73 := c73 hX.acts (fun a ha => by have := hI.mins a ha; unfold inR at this; simp at this; omega) hFs hF.lt hF.len p m hb
  rw [state_eq hI hp hmM hm2] at h73
  have hfd : fD fs x = .agg [I p, .sl b1 0 (idxOf l x p).length] := by unfold fD; simp [hF.fk]; rfl
  have hea : D.eaddr 2 (.lst ((ags l car m).map (fD fs))) (I i) = some (.ptr [I p, .sl b1 0 (idxOf l x p).length]) := by
   have := eaddr_lst (enc := fD fs) (sz := 2) hx (by rw [hfd]; rfl)
   rw [hfd] at this
   exact this
  simp only [List.length_cons] at g4
  simp only [List.map_cons, List.sum_cons, List.any_cons] at g1 g2
  have hct : ctb c l m x = if frB c l x m = true then frP c l x m else 0 := by unfold ctb fB fP; rw [hth]; rfl
  have hcp : cpr c l m x = (stR c l x m == 1 || stR c l x m == 3 || stR c l x m == 4) := by unfold cpr rState; rw [hth]; rfl
  have hbx := hbd x
  rw [hct] at g1 hbx
  rw [hcp] at g2
  have hli : decide ((i : Int) < ((ags l car m).length : Int)) = true := by simp; omega
  cases hfb : frB c l x m
  ·rw [hfb] at g1 hbx h76
   simp only [Bool.false_eq_true, if_false] at g1 hbx
   repeat' (first | ((with_reducible apply nrm); (· simp only [sbe]; rfl)) | ((with_reducible apply u_iteT); (· rfl); (· exact hli)) | ((with_reducible apply u_iteF); (· rfl); (· exact rfl)) | ((with_reducible apply u_chk); (· rfl)) | ((with_reducible apply u_ld); (· rfl); (· rfl); (· exact ld_var); (· simp only [sbe]; rfl)) | ((with_reducible apply u_eaddr); (· rfl); (· rfl); (· exact hea); (· simp only [sbe]; rfl)) | ((with_reducible apply u_sto); (· rfl); (· rfl); (· rfl); (· exact sto_var (r := []) (by rfl)); (· simp only [sbe]; rfl)) | ((with_reducible apply u_inc); (· rfl); (· omega); (· simp only [sbe]; rfl)) | ((with_reducible apply u_ev); (· rfl); (· simp only [sbe]; rfl)) | ((with_reducible apply u_call); (· rfl); (· rfl); (· first | exact h76 | exact h73); (· rfl); (· simp only [sbe]; rfl)) | ((with_reducible apply u_or); (· rfl)) | (with_reducible refine u_join ?_) | ((with_reducible apply u_jump); (· rfl); (· rfl)) | (with_reducible refine at_jump ?_) | (with_reducible refine kj rfl ?_) | (with_reducible exact u_ret rfl rfl) | ((with_reducible intro hz); (try simp only [sbs] at hz)))
   exact hR (s1, s2 || stR c l x m == 1 || stR c l x m == 3 || stR c l x m == 4) ⟨by simp only; omega, by simpa [Bool.or_assoc] using g2, by simp only; omega, by simp only; omega⟩
  ·rw [hfb] at g1 hbx h76
   simp only [if_true] at g1 hbx
   repeat' (first | ((with_reducible apply nrm); (· simp only [sbe]; rfl)) | ((with_reducible apply u_iteT); (· rfl); (· first | exact hli | exact rfl)) | ((with_reducible apply u_chk); (· rfl)) | ((with_reducible apply u_ld); (· rfl); (· rfl); (· exact ld_var); (· simp only [sbe]; rfl)) | ((with_reducible apply u_eaddr); (· rfl); (· rfl); (· exact hea); (· simp only [sbe]; rfl)) | ((with_reducible apply u_sto); (· rfl); (· rfl); (· rfl); (· exact sto_var (r := []) (by rfl)); (· simp only [sbe]; rfl)) | ((with_reducible apply u_inc); (· rfl); (· omega); (· simp only [sbe]; rfl)) | ((with_reducible apply u_add); (· rfl); (· rfl); (· omega); (· simp only [sbe]; rfl)) | ((with_reducible apply u_ev); (· rfl); (· simp only [sbe]; rfl)) | ((with_reducible apply u_call); (· rfl); (· rfl); (· first | exact h76 | exact h73); (· rfl); (· simp only [sbe]; rfl)) | ((with_reducible apply u_or); (· rfl)) | (with_reducible refine u_join ?_) | ((with_reducible apply u_jump); (· rfl); (· rfl)) | (with_reducible refine at_jump ?_) | (with_reducible refine kj rfl ?_) | (with_reducible exact u_ret rfl rfl) | ((with_reducible intro hz); (try simp only [sbs] at hz)))
   exact hR (s1 + frP c l x m, s2 || stR c l x m == 1 || stR c l x m == 3 || stR c l x m == 4) ⟨by simp only; omega, by simpa [Bool.or_assoc] using g2, by simp only; omega, by simp only; omega⟩
 ·obtain ⟨s1, s2⟩ := s
  obtain ⟨g1, g2, g3, g4⟩ := hG
  simp only [List.map_nil, List.sum_nil, List.any_nil, Bool.or_false] at g1 g2
  have g1' : s1 = penR c l car m := by omega
  subst g1'
  have hli : decide (((ags l car m).length : Int) < ((ags l car m).length : Int)) = false := by simp
  have h77 := c77 (bs := bs ++ [.blk 4 1 [B s2]]) (j := j) m
  have hnl : noyls ((ags l car m).map (fD fs)) = true := noyls_map fun x hx => by
   obtain ⟨hm1, hm2, hm3⟩ := ags_mem hx
   obtain ⟨s, hF⟩ := h.caseAt hA (List.getElem?_eq_getElem hm1)
   have e : fD fs x = .agg [I (pro l)[x], s] := by unfold fD; simp [hF.fk]; rfl
   rw [e]
   simp [D.noyl, noyls, hF.sl.noyl]
  have hst0 : ysto bs c m l s2 0 = bs ++ [.blk 4 1 [B s2]] := by simp [ysto]
  have hfin : D.ld false 1 (.st (ysto bs c m l s2 (upN l m))) (.loc bs.length 0) = some (B (prvR c l car m)) := by
   unfold ysto prvR
   rw [up_any hI, ← g2]
   exact ld_var
  rw [← g2]
  repeat' (first | ((with_reducible apply nrm); (· simp only [sbe]; rfl)) | ((with_reducible apply u_iteF); (· rfl); (· exact hli)) | ((with_reducible apply u_ev); (· rfl); (· simp only [sbe]; rfl)) | ((with_reducible apply u_call); (· rfl); (· rfl); (· exact h77); (· rfl); (· simp only [sbe]; rfl)) | (with_reducible refine u_join ?_) | ((with_reducible apply u_jump); (· rfl); (· rfl)) | (with_reducible refine at_jump ?_) | (with_reducible refine over_jump (by decide) ?_) | (with_reducible refine kj rfl ?_))
  refine u_rfor (.tup []) (.st (ysto bs c m l s2 (upN l m))) rfl (by kernel_rfl) rfl rfl ?_ ?_ (fun m0 rec hyl => ?_) (by simp only [sbe]; rfl) ?_
  ·simp [noyls, D.noyl, hnl, D.cells]
  ·simpa [D.noyl] using ysto_noyl hn m s2 (upN l m)
  ·have hact : ∀ i, i ≤ upN l m → ActsAt (ysto bs c m l s2 i) j c l sa sf := fun i _ => (h.more _).acts
   rw [← hst0]
   refine c101 (ysto bs c m l s2) (by omega) (upN_le l m) hact (fun i h hi => upN_low h hi) (fun h => upN_up h) (fun i hil hi => ?_)
   ·refine hyl _ _ _ (by simpa [D.noyl] using ysto_noyl hn m s2 i) (by show noyls [I i, .agg l[i].cs] = true; simp [noyls, D.noyl, akt_noyl]) rfl ?_
    obtain ⟨r, hr⟩ : ∃ r, r = (l.take i).map (fun a => D.blk 43 12 a.cs) := ⟨_, rfl⟩
    obtain ⟨pv, hpv⟩ : ∃ pv, pv = (s2 || (l.take i).any (pubC c m)) := ⟨_, rfl⟩
    have e1 : ysto bs c m l s2 i = bs ++ .blk 4 1 [B pv] :: r := by rw [hr, hpv]; rfl
    have e2 : ysto bs c m l s2 (i + 1) = bs ++ .blk 4 1 [B (pv || (l[i].kind == 1 && decide (m - l[i].minute ≤ c.window)))] :: (r ++ [.blk 43 12 l[i].cs]) := by
     unfold ysto
     rw [List.take_succ_eq_append_getElem hil, hr, hpv]
     have hpc : pubC c m l[i] = (l[i].kind == 1 && decide (m - l[i].minute ≤ c.window)) := rfl
     simp only [List.any_append, List.any_cons, List.any_nil, List.map_append, List.map_cons, List.map_nil, Bool.or_false, Bool.or_assoc, hpc]
    have hX := (h.more (.blk 4 1 [B pv] :: (r ++ [.blk 43 12 l[i].cs]))).acts
    rw [show bs ++ .blk 4 1 [B pv] :: (r ++ [.blk 43 12 l[i].cs]) = (bs ++ .blk 4 1 [B pv] :: r) ++ [.blk 43 12 l[i].cs] by simp] at hX
    have hmx := hI.mins l[i] (List.getElem_mem hil)
    unfold inR at hmx
    simp only [Bool.and_eq_true, decide_eq_true_eq] at hmx
    have hv : D.ld false 1 (.st ((bs ++ .blk 4 1 [B pv] :: r) ++ [.blk 43 12 l[i].cs])) (.loc bs.length 0) = some (B pv) := by
     rw [List.append_assoc]
     exact ld_var (r := r ++ [.blk 43 12 l[i].cs])
    have hk0 : D.ld false 1 (.st ((bs ++ .blk 4 1 [B pv] :: r) ++ [.blk 43 12 l[i].cs])) (.loc (bs ++ .blk 4 1 [B pv] :: r).length 0) = some (I l[i].kind) := ld_blk (cs := l[i].cs) (e := 43) (sz := 12) (by simp) rfl
    have hk1 : D.ld false 1 (.st ((bs ++ .blk 4 1 [B pv] :: r) ++ [.blk 43 12 l[i].cs])) (.loc (bs ++ .blk 4 1 [B pv] :: r).length 1) = some (I l[i].minute) := ld_blk (cs := l[i].cs) (e := 43) (sz := 12) (by simp) rfl
    have hw : D.ld false 1 (.st ((bs ++ .blk 4 1 [B pv] :: r) ++ [.blk 43 12 l[i].cs])) (.loc j 2) = some (I c.window) := ld_blk hX.1 rfl
    have hs1 : ∀ v : Bool, D.sto 1 (.st ((bs ++ .blk 4 1 [B pv] :: r) ++ [.blk 43 12 l[i].cs])) (.loc bs.length 0) (B v) = some (.st (bs ++ .blk 4 1 [B v] :: (r ++ [.blk 43 12 l[i].cs]))) := fun v => by
     rw [List.append_assoc]
     exact sto_var (r := r ++ [.blk 43 12 l[i].cs]) (d := B v) rfl
    rw [e1, e2]
    refine nrm (env2 := _) (by simp only [sbe]; rfl) ?_
    repeat' (first | ((with_reducible apply nrm); (· simp only [sbe]; rfl)) | ((with_reducible apply u_chk); (· rfl)) | ((with_reducible apply u_ld); (· rfl); (· rfl); (· first | exact hv | exact hk0 | exact hk1 | exact hw); (· simp only [sbe]; rfl)) | ((with_reducible apply u_sto); (· rfl); (· rfl); (· rfl); (· first | exact sto_all rfl rfl rfl | exact hs1 _); (· simp only [sbe]; rfl)) | ((with_reducible apply u_sub); (· rfl); (· rfl); (· omega); (· simp only [sbe]; rfl)) | ((with_reducible apply u_ev); (· rfl); (· simp only [sbe]; rfl)) | ((with_reducible apply u_or); (· rfl)) | ((with_reducible apply u_and); (· rfl)) | (with_reducible refine u_join ?_) | ((with_reducible apply u_jump); (· rfl); (· rfl)) | (with_reducible refine at_jump ?_) | (with_reducible refine kj rfl ?_) | (with_reducible exact u_ret rfl rfl) | ((with_reducible intro hz); (try simp only [sbs] at hz)))
    rfl
  ·repeat' (first | ((with_reducible apply nrm); (· simp only [sbe]; rfl)) | ((with_reducible apply u_ld); (· rfl); (· rfl); (· exact hfin); (· simp only [sbe]; rfl)) | ((with_reducible apply u_jump); (· rfl); (· rfl)) | (with_reducible refine at_jump ?_) | (with_reducible refine kj rfl ?_) | (with_reducible exact u_ret rfl rfl))

end Go.Am.Ct

/-
 The law on states and penalties.
-/
namespace Go.Am.Ct
open Go.Proofs Go.Am.Ap
set_option maxRecDepth 100000
set_option maxHeartbeats 4000000

variable {c : Cod} {l : List Akt}

attribute [local irreducible] inR

theorem right_pen (c : Cod) (car m : Int) : rightB c car m = penB c car m := by
 unfold rightB penB inR
 simp [Bool.and_assoc]

end Go.Am.Ct

/-
 The law on grounds.
-/
namespace Go.Am.Ct
open Go.Proofs Go.Am.Ap Go.Am.Srt
set_option maxRecDepth 100000
set_option maxHeartbeats 4000000

variable {c : Cod} {l : List Akt} {bs : List D} {j : Nat} {F : Nat → Prop}

attribute [local irreducible] inR

theorem c49g (hA : Acc c l) {sa sf : D} {fs : List (Int × D)} (h : Crt bs F j c l (qOf l) sa sf fs) (car m : Int) (hr : penB c car m = true) :
  ∃ (g : D) (B : List D), FSpecW Try.prog 49 (.st bs) [.loc j 0, I car, I m] (.tup [g, I 0]) (.st B) ∧ SlOf B 3 1 (fun x : Int => [I x]) g ((gR c l car m).map fun i : Nat => (i : Int)) ∧ bs.length ≤ B.length ∧ ∀ k, k < bs.length → B[k]? = bs[k]? := by
 have hmM : m ≤ MM := by
  unfold penB at hr
  rw [Bool.and_eq_true] at hr
  have := hr.2
  unfold inR at this
  simp at this
  unfold MM
  omega
 rw [← gr_eq hA hmM]
 exact c49 (fun hb hL => sortW (fun blk off cap zs w h1 h2 h3 => Try.slices_Sort_int blk off cap zs w h1 h2 h3) hb hL) (sortN fun p cap w => (Try.slices_Sort_int_none p cap w).mono fun e w' h => ⟨h.1, 0, by rw [h.2]; rfl⟩)
  (fun hb hL hc => compactW (cp := Lib.compact) (fun blk off cap zs w h1 h2 h3 => Try.slices_Compact_int blk off cap zs w h1 h2 h3) hb hL hc) (compactN fun a cap w => Try.slices_Compact_int_empty a cap w) hA h car m hr

end Go.Am.Ct

/-
 Arguments of laws.
-/
namespace Go.Am.Ct
open Go.Am.Ap

theorem argInt {x : D} (h : ArgSh (.int .i64) x) : ∃ n, x = I n ∧ Ap.i64 n := by
 obtain ⟨n, hn, hb⟩ := ofI (h.2 rfl)
 cases hn
 exact ⟨n, rfl, hb⟩

def ActsOk (l : List Akt) : Prop := (∀ a, a ∈ l → a.Ok) ∧ l.length ≤ maxLen

theorem ofActs : ∀ {es : List D}, (∀ x, x ∈ es → ∃ cs, x = .agg cs ∧ OfSh shAct cs) → ∃ xs : List Akt, es = xs.map Akt.d ∧ ∀ a, a ∈ xs → a.Ok
 | [], _ => ⟨[], rfl, by simp⟩
 | e :: es, h => by
  obtain ⟨cs, rfl, h1⟩ := h e (by simp)
  obtain ⟨a, ha, ho⟩ := ofAct h1
  obtain ⟨xs, rfl, hx⟩ := ofActs (es := es) fun x hx => h x (by simp [hx])
  exact ⟨a :: xs, by rw [ha]; rfl, by simpa using ⟨ho, hx⟩⟩

theorem argActs {x : D} (h : ArgSh (.sl shAct) x) : ∃ l : List Akt, x = Rec l ∧ ActsOk l := by
 have h := h.2 rfl
 simp only [OfSh] at h
 obtain ⟨es, hx, hl, hes⟩ := h
 cases hx
 obtain ⟨xs, rfl, ho⟩ := ofActs fun x hx => (hes x hx).1 rfl
 exact ⟨xs, rfl, ho, by simpa using hl⟩

theorem ofArt {cs : List D} (h : OfSh shArt cs) : ∃ a : Art, .agg cs = a.d ∧ a.Ok := by
 simp only [shArt, OfSh, OfAll] at h
 have cv : ∀ {ds : List D}, (∃ n : Int, ds = [.v (.int .i64 n)] ∧ IntKind.i64.min ≤ n ∧ n ≤ IntKind.i64.max) → ∃ n, ds = [I n] ∧ Ap.i64 n := fun h => ofI (by simpa only [OfSh] using h)
 obtain ⟨_, _, rfl, h1, _, _, rfl, h2, _, _, rfl, h3, _, _, rfl, h4, rfl⟩ := h
 obtain ⟨n, rfl, b1⟩ := cv h1
 obtain ⟨f, rfl, b2⟩ := cv h2
 obtain ⟨l, rfl, b3⟩ := cv h3
 obtain ⟨m, rfl, b4⟩ := cv h4
 exact ⟨⟨n, f, l, m⟩, rfl, b1, b2, b3, b4⟩

theorem ofArts : ∀ {es : List D}, (∀ x, x ∈ es → ∃ cs, x = .agg cs ∧ OfSh shArt cs) → ∃ xs : List Art, es = xs.map Art.d ∧ ∀ a, a ∈ xs → a.Ok
 | [], _ => ⟨[], rfl, by simp⟩
 | e :: es, h => by
  obtain ⟨cs, rfl, h1⟩ := h e (by simp)
  obtain ⟨a, ha, ho⟩ := ofArt h1
  obtain ⟨xs, rfl, hx⟩ := ofArts (es := es) fun x hx => h x (by simp [hx])
  exact ⟨a :: xs, by rw [ha]; rfl, by simpa using ⟨ho, hx⟩⟩

theorem argCode {x : D} (h : ArgSh shCode x) : ∃ c : Cod, x = c.d ∧ c.Ok := by
 obtain ⟨cs, rfl, hh⟩ := h.1 rfl
 simp only [shCode, OfSh, OfAll] at hh
 have cv : ∀ {ds : List D}, (∃ n : Int, ds = [.v (.int .i64 n)] ∧ IntKind.i64.min ≤ n ∧ n ≤ IntKind.i64.max) → ∃ n, ds = [I n] ∧ Ap.i64 n := fun h => ofI (by simpa only [OfSh] using h)
 obtain ⟨_, _, rfl, h1, _, _, rfl, ⟨es, rfl, hl, hes⟩, _, _, rfl, h3, _, _, rfl, h4, _, _, rfl, h5, _, _, rfl, h6, rfl⟩ := hh
 obtain ⟨a, rfl, b1⟩ := cv h1
 obtain ⟨w, rfl, b3⟩ := cv h3
 obtain ⟨s, rfl, b4⟩ := cv h4
 obtain ⟨f, rfl, b5⟩ := cv h5
 obtain ⟨p, rfl, b6⟩ := cv h6
 obtain ⟨xs, rfl, hx⟩ := ofArts fun x hx => (hes x hx).1 rfl
 exact ⟨⟨a, xs, w, s, f, p⟩, rfl, b1, b3, b4, b5, b6, hx, by simpa using hl⟩

end Go.Am.Ct

/-
 Later acts change nothing.
-/
namespace Go.Am.Ct
open Go.Proofs Go.Am.Ap
set_option maxRecDepth 100000
set_option maxHeartbeats 4000000

variable {c : Cod} {l : List Akt} {a : Akt} {car m : Int}

attribute [local irreducible] inR

def penK (c : Cod) (l : List Akt) (car m : Int) (k : Nat) : Int := if agB l car k = true then ctb c l m k else 0

theorem filter_sumTo (P : Nat → Bool) (f : Nat → Int) : ∀ n : Nat, (((List.range n).filter P).map f).sum = sumTo (fun k => if P k = true then f k else 0) n
 | 0 => rfl
 | n + 1 => by
  rw [sumTo_succ, ← filter_sumTo P f n, List.range_succ, List.filter_append, List.map_append, List.sum_append]
  congr 1
  cases h : P n <;> simp [List.filter_cons, h]

theorem pen_sum (c : Cod) (l : List Akt) (car m : Int) : penR c l car m = sumTo (penK c l car m) (pro l).length := filter_sumTo _ _ _

end Go.Am.Ct

/-
 A record with the acts alone on which a penalty rests.
-/
namespace Go.Am.Ct
open Go.Proofs Go.Am.Ap Go.Am.Srt
set_option maxRecDepth 100000
set_option maxHeartbeats 4000000

variable {c : Cod} {l : List Akt} {car m : Int}

attribute [local irreducible] inR

def fk (c : Cod) (l : List Akt) (car m : Int) (k : Nat) : Bool := agB l car k && fB c l k m
def nu (c : Cod) (l : List Akt) (car m : Int) (k : Nat) : Nat := ((List.range k).filter (fk c l car m)).length
def ren (c : Cod) (l : List Akt) (car m : Int) (a : Akt) : Akt := if a.kind = 1 ∨ a.kind = 2 then a else { a with cse := nu c l car m a.cse.toNat }
def sub (c : Cod) (l : List Akt) (car m : Int) : Nat → List Akt
 | 0 => []
 | n + 1 => if metB c l car m n = true then sub c l car m n ++ [ren c l car m (nth l n)] else sub c l car m n

theorem sub_map (n : Nat) : sub c l car m n = ((List.range n).filter (metB c l car m)).map fun i => ren c l car m (nth l i) := by
 induction n with
 | zero => rfl
 | succ n ih =>
  rw [sub, List.range_succ, List.filter_append, List.map_append, ← ih]
  cases h : metB c l car m n <;> simp [h]

theorem mem_sub {n : Nat} {x : Akt} : x ∈ sub c l car m n ↔ ∃ i, i < n ∧ metB c l car m i = true ∧ x = ren c l car m (nth l i) := by
 rw [sub_map, List.mem_map]
 constructor
 ·rintro ⟨i, hi, rfl⟩
  rw [List.mem_filter, List.mem_range] at hi
  exact ⟨i, hi.1, hi.2, rfl⟩
 ·rintro ⟨i, h1, h2, rfl⟩
  exact ⟨i, by rw [List.mem_filter, List.mem_range]; exact ⟨h1, h2⟩, rfl⟩

theorem sub_len (n : Nat) : (sub c l car m n).length ≤ n := by
 rw [sub_map, List.length_map]
 have := List.length_filter_le (metB c l car m) (List.range n)
 rwa [List.length_range] at this

theorem ren_kind (a : Akt) : (ren c l car m a).kind = a.kind := by unfold ren; split <;> rfl
theorem ren_minute (a : Akt) : (ren c l car m a).minute = a.minute := by unfold ren; split <;> rfl
theorem ren_same (a : Akt) : (ren c l car m a).upheld = a.upheld ∧ (ren c l car m a).penalty = a.penalty ∧ (ren c l car m a).by_ = a.by_ ∧ (ren c l car m a).paid = a.paid ∧ (ren c l car m a).facts = a.facts := by unfold ren; split <;> exact ⟨rfl, rfl, rfl, rfl, rfl⟩
theorem ren_low {a : Akt} (h : a.kind = 1 ∨ a.kind = 2) : ren c l car m a = a := by unfold ren; rw [if_pos h]
theorem ren_cse {a : Akt} (h : 3 ≤ a.kind) : (ren c l car m a).cse = nu c l car m a.cse.toNat := by unfold ren; rw [if_neg (by omega)]

theorem nu_succ (k : Nat) : nu c l car m (k + 1) = nu c l car m k + if fk c l car m k = true then 1 else 0 := by
 unfold nu
 rw [List.range_succ, List.filter_append, List.length_append]
 cases h : fk c l car m k <;> simp [h]

theorem nu_mono {k : Nat} : ∀ {k' : Nat}, k ≤ k' → nu c l car m k ≤ nu c l car m k'
 | 0, h => by rw [show k = 0 by omega]; exact Nat.le_refl _
 | k' + 1, h => by
  rcases Nat.lt_or_ge k' k with h1 | h1
  ·rw [show k = k' + 1 by omega]; exact Nat.le_refl _
  ·have := nu_mono h1
   rw [nu_succ]
   omega

theorem nu_lt {k k' : Nat} (h : k < k') (hf : fk c l car m k = true) : nu c l car m k < nu c l car m k' := by
 have := nu_mono (c := c) (l := l) (car := car) (m := m) (show k + 1 ≤ k' from h)
 rw [nu_succ, if_pos hf] at this
 omega

theorem nu_inj {k k' : Nat} (h1 : fk c l car m k = true) (h2 : fk c l car m k' = true) (h : nu c l car m k = nu c l car m k') : k = k' := by
 rcases Nat.lt_trichotomy k k' with h3 | h3 | h3
 ·have := nu_lt h3 h1; omega
 ·exact h3
 ·have := nu_lt h3 h2; omega

theorem lastIx_pos {P : Akt → Bool} {L : List Akt} {i : Nat} (hP : P (nth L i) = true) : ∀ {n : Nat}, i < n → 0 ≤ lastIx P L n
 | 0, h => absurd h (Nat.not_lt_zero _)
 | n + 1, h => by
  unfold lastIx
  split
  ·omega
  ·rename_i hn
   rcases Nat.lt_or_ge i n with h1 | h1
   ·exact lastIx_pos hP h1
   ·rw [show i = n by omega] at hP; exact absurd hP hn

theorem rlast_pos {L : List Akt} {kd k m' : Int} {x : Akt} (hx : x ∈ L) (hP : isAct kd k m' x = true) : 0 ≤ rlast L kd k m' := by
 obtain ⟨i, hi, rfl⟩ := List.mem_iff_getElem.1 hx
 exact lastIx_pos (i := i) (by rw [nth_get hi]; exact hP) hi

theorem fi_pos {P : Akt → Bool} {L : List Akt} {x : Akt} (hx : x ∈ L) (hP : P x = true) : ∃ i : Nat, fi P L = i ∧ i < L.length ∧ P (nth L i) = true := by
 rcases fi_cases P L with ⟨_, h⟩ | ⟨i, hi, h, hPi, _⟩
 ·rw [h x hx] at hP; cases hP
 ·exact ⟨i, h, hi, by rw [nth_get hi]; exact hPi⟩

/-! ## which acts are kept -/

theorem fk_there {k : Nat} (hk : k < (pro l).length) (h : fk c l car m k = true) : (nth l (pk l k)).minute ≤ m ∧ (nth l (pk l k)).against = car ∧ frB c l k m = true := by
 unfold fk fB agB at h
 simp only [Bool.and_eq_true, decide_eq_true_eq] at h
 refine ⟨?_, h.1, h.2.2⟩
 rcases Decidable.em ((nth l (pk l k)).minute ≤ m) with h1 | h1
 ·exact h1
 ·rw [there_no' h1] at h; cases h.2.1

theorem met_of {i k : Nat} (him : (nth l i).minute ≤ m) (hk : k < (pro l).length) (hf : fk c l car m k = true) (ht : touch l i k = true) : metB c l car m i = true := by
 unfold metB
 rw [decide_eq_true him, Bool.true_and, List.any_eq_true]
 refine ⟨k, List.mem_range.2 hk, ?_⟩
 unfold fk at hf
 rw [Bool.and_eq_true] at hf
 unfold metK
 rw [hf.1, hf.2, ht]
 rfl

theorem of_met {i : Nat} (h : metB c l car m i = true) : (nth l i).minute ≤ m ∧ ∃ k, k < (pro l).length ∧ fk c l car m k = true ∧ (i = pk l k ∨ ((nth l i).kind ≠ 1 ∧ (nth l i).kind ≠ 2 ∧ (nth l i).cse = k) ∨ (nth l i).kind = 1) := by
 unfold metB at h
 rw [Bool.and_eq_true, decide_eq_true_eq, List.any_eq_true] at h
 obtain ⟨h1, k, hk, h2⟩ := h
 rw [List.mem_range] at hk
 unfold metK at h2
 simp only [Bool.and_eq_true] at h2
 refine ⟨h1, k, hk, by unfold fk; rw [h2.1, h2.2.1]; rfl, ?_⟩
 have ht := h2.2.2
 unfold touch at ht
 simp only [Bool.or_eq_true, Bool.and_eq_true, beq_iff_eq, bne_iff_ne, ne_eq] at ht
 rcases ht with (ht | ht) | ht
 ·exact .inl (by omega)
 ·exact .inr (.inl ⟨ht.1.1, ht.1.2, ht.2⟩)
 ·right; right
  rcases fi_cases (isPub (nth l (pk l k)).paper) l with ⟨h, _⟩ | ⟨i2, hi2, h, hP, _⟩
  ·omega
  ·have : i2 = i := by omega
   subst this
   unfold isPub at hP
   rw [nth_get hi2]
   simp at hP
   exact hP.1

theorem met_own (hI : Inv c l) {i : Nat} (hi : i < l.length) (h : metB c l car m i = true) (h3 : 3 ≤ (nth l i).kind) : ∃ k : Nat, k < (pro l).length ∧ fk c l car m k = true ∧ (nth l i).cse = k := by
 obtain ⟨_, k, hk, hf, ht⟩ := of_met h
 have hkn : (nth l (pk l k)).kind = 2 := by rw [pk_get hk]; exact pro_kind (List.getElem_mem _)
 rcases ht with rfl | ht | ht
 ·omega
 ·exact ⟨k, hk, hf, ht.2.2⟩
 ·omega

theorem met_pro {i : Nat} (h : metB c l car m i = true) (h2 : (nth l i).kind = 2) : ∃ k, k < (pro l).length ∧ fk c l car m k = true ∧ i = pk l k := by
 obtain ⟨_, k, hk, hf, ht⟩ := of_met h
 rcases ht with rfl | ht | ht
 ·exact ⟨k, hk, hf, rfl⟩
 ·exact absurd h2 ht.2.1
 ·omega

theorem met_case {k : Nat} (hk : k < (pro l).length) (hf : fk c l car m k = true) : metB c l car m (pk l k) = true :=
 met_of (fk_there hk hf).1 hk hf (by unfold touch; simp)

theorem met_act {i k : Nat} (hk : k < (pro l).length) (hf : fk c l car m k = true) (h3 : 3 ≤ (nth l i).kind) (hc : (nth l i).cse = k) (him : (nth l i).minute ≤ m) : metB c l car m i = true := by
 refine met_of him hk hf ?_
 unfold touch
 have q1 : ((nth l i).kind != 1) = true := by simp; omega
 have q2 : ((nth l i).kind != 2) = true := by simp; omega
 have q3 : ((nth l i).cse == (k : Int)) = true := by simp [hc]
 rw [q1, q2, q3]
 simp

/-! ## the acts of a case -/

theorem sub_last (hI : Inv c l) {n k : Nat} {kd : Int} (hn : n ≤ l.length) (hk : k < (pro l).length) (hf : fk c l car m k = true) (h3 : 3 ≤ kd) (h : 0 ≤ rlast (sub c l car m n) kd (nu c l car m k) MM) :
  0 ≤ rlast l kd k MM ∧ rlast l kd k MM < n ∧ (nth l (rlast l kd k MM).toNat).minute ≤ m ∧ nth (sub c l car m n) (rlast (sub c l car m n) kd (nu c l car m k) MM).toNat = ren c l car m (nth l (rlast l kd k MM).toNat) := by
 obtain ⟨i, hi, hil, hkd, hcs⟩ := at_of h
 have hmem : nth (sub c l car m n) i ∈ sub c l car m n := by rw [nth_get hil]; exact List.getElem_mem _
 obtain ⟨i', h1, h2, h4⟩ := mem_sub.1 hmem
 rw [h4, ren_kind] at hkd
 rw [h4, ren_cse (by omega)] at hcs
 obtain ⟨k', hk', hf', hc'⟩ := met_own hI (by omega) h2 (by omega)
 rw [hc', Int.toNat_natCast] at hcs
 have e : k' = k := nu_inj hf' hf (by omega)
 subst e
 have hu := hI.uniq i' (by omega) (by omega)
 rw [hkd, hc'] at hu
 rw [← hu, hi]
 refine ⟨by omega, by omega, ?_, ?_⟩
 ·rw [Int.toNat_natCast]; exact (of_met h2).1
 ·rw [Int.toNat_natCast, Int.toNat_natCast, h4]

theorem sub_has (hI : Inv c l) {n k : Nat} {kd : Int} (hk : k < (pro l).length) (hf : fk c l car m k = true) (h3 : 3 ≤ kd) (h0 : 0 ≤ rlast l kd k MM) (hn : rlast l kd k MM < n) (hm : (nth l (rlast l kd k MM).toNat).minute ≤ m) : 0 ≤ rlast (sub c l car m n) kd (nu c l car m k) MM := by
 obtain ⟨i, hi, hil, hkd, hcs⟩ := at_of h0
 rw [hi, Int.toNat_natCast] at hm
 have hmt := met_act hk hf (i := i) (by omega) hcs hm
 refine rlast_pos (mem_sub.2 ⟨i, by omega, hmt, rfl⟩) ?_
 unfold isAct
 have hmm := hI.mins _ (show nth l i ∈ l by rw [nth_get hil]; exact List.getElem_mem _)
 unfold inR at hmm
 simp at hmm
 rw [ren_kind, ren_minute, ren_cse (by omega), hkd, hcs]
 simp
 unfold MM
 omega

/-! ## the protests -/

theorem prot_take : ∀ {n i : Nat}, i ≤ n → n ≤ l.length → prot (l.take n) i = prot l i
 | n, 0, _, _ => rfl
 | n, i + 1, h, hn => by
  have e : nth (l.take n) i = nth l i := by simp [nth, List.getElem?_take, show i < n by omega]
  simp only [prot, e, prot_take (show i ≤ n by omega) hn]

theorem prot_pre : ∀ {n d : Nat}, ∃ r, prot l (n + d) = prot l n ++ r
 | n, 0 => ⟨[], by simp⟩
 | n, d + 1 => by
  obtain ⟨r, hr⟩ := prot_pre (n := n) (d := d)
  show ∃ r, prot l (n + d + 1) = _
  simp only [prot]
  split
  ·exact ⟨r ++ [n + d], by rw [hr, List.append_assoc]⟩
  ·exact ⟨r, hr⟩

theorem pro_pre {n : Nat} (hn : n ≤ l.length) : ∃ r, pro l = prot l n ++ r := by
 obtain ⟨r, hr⟩ := prot_pre (l := l) (n := n) (d := l.length - n)
 exact ⟨r, by unfold pro; rw [← hr, show n + (l.length - n) = l.length by omega]⟩

theorem pk_pre {n k : Nat} (hn : n ≤ l.length) (hk : k < (prot l n).length) : k < (pro l).length ∧ (prot l n)[k]? = some (pk l k) := by
 obtain ⟨r, hr⟩ := pro_pre hn
 have h1 : k < (pro l).length := by rw [hr, List.length_append]; omega
 refine ⟨h1, ?_⟩
 rw [pk_get h1]
 have : (pro l)[k]? = (prot l n)[k]? := by rw [hr, List.getElem?_append_left hk]
 rw [← this]
 exact List.getElem?_eq_getElem h1

theorem pk_inj {k k' : Nat} (h : k < (pro l).length) (h' : k' < (pro l).length) (e : pk l k = pk l k') : k = k' := by
 have hs : (pro l).Pairwise (· < ·) := by
  unfold pro
  have : ∀ n, (prot l n).Pairwise (· < ·) := by
   intro n
   induction n with
   | zero => simp [prot]
   | succ n ih =>
    simp only [prot]
    split
    ·rw [List.pairwise_append]
     exact ⟨ih, by simp, fun a ha b hb => by simp at hb; have := prot_lt l n a ha; omega⟩
    ·exact ih
  exact this _
 rw [pk_get h, pk_get h'] at e
 rcases Nat.lt_trichotomy k k' with h3 | h3 | h3
 ·have := (List.pairwise_iff_getElem.1 hs) k k' h h' h3; omega
 ·exact h3
 ·have := (List.pairwise_iff_getElem.1 hs) k' k h' h h3; omega

theorem sub_pro (c : Cod) (l : List Akt) (car m : Int) : ∀ n, n ≤ l.length → (pro (sub c l car m n)).length = nu c l car m (prot l n).length ∧ ∀ k, k < (prot l n).length → fk c l car m k = true → ∃ q : Nat, (pro (sub c l car m n))[nu c l car m k]? = some q ∧ nth (sub c l car m n) q = nth l (pk l k)
 | 0, _ => ⟨rfl, fun k h => absurd h (Nat.not_lt_zero _)⟩
 | n + 1, hn => by
  obtain ⟨i1, i2⟩ := sub_pro c l car m n (by omega)
  have keep : ∀ x : Akt, ∀ k, k < (prot l n).length → fk c l car m k = true → ∃ q : Nat, (pro (sub c l car m n ++ [x]))[nu c l car m k]? = some q ∧ nth (sub c l car m n ++ [x]) q = nth l (pk l k) := fun x k hk hf => by
   obtain ⟨q, h1, h2⟩ := i2 k hk hf
   have hql := prot_lt _ _ q (List.mem_of_getElem? (show (prot (sub c l car m n) (sub c l car m n).length)[nu c l car m k]? = some q from h1))
   refine ⟨q, ?_, by rw [nth_left hql]; exact h2⟩
   rw [pro_snoc]
   split
   ·rw [List.getElem?_append_left (List.getElem?_eq_some_iff.1 h1).1]; exact h1
   ·exact h1
  by_cases h2 : (nth l n).kind = 2
  ·have ep : prot l (n + 1) = prot l n ++ [n] := by simp only [prot]; rw [if_pos h2]
   obtain ⟨k0, hk0⟩ : ∃ k0, k0 = (prot l n).length := ⟨_, rfl⟩
   have hpp := pk_pre (n := n + 1) (k := k0) hn (by rw [ep]; simp; omega)
   have epk : pk l k0 = n := by
    have := hpp.2
    rw [ep, List.getElem?_append_right (by omega)] at this
    rw [show k0 - (prot l n).length = 0 by omega] at this
    exact (Option.some.inj this).symm
   rw [ep, List.length_append, List.length_cons, List.length_nil, ← hk0, nu_succ]
   by_cases hf : fk c l car m k0 = true
   ·have hmet : metB c l car m n = true := by rw [← epk]; exact met_case hpp.1 hf
    rw [sub, if_pos hmet, if_pos hf, ren_low (.inr h2)]
    refine ⟨by rw [pro_snoc, if_pos h2, List.length_append, i1, ← hk0]; rfl, fun k hk hfk => ?_⟩
    rcases Nat.lt_or_ge k k0 with h3 | h3
    ·exact keep _ k (by omega) hfk
    ·have e : k = k0 := by omega
     subst e
     refine ⟨(sub c l car m n).length, ?_, by rw [nth_last, epk]⟩
     rw [pro_snoc, if_pos h2, List.getElem?_append_right (by rw [i1, hk0]; exact Nat.le_refl _), i1, hk0, Nat.sub_self]
     rfl
   ·have hmet : ¬ metB c l car m n = true := fun h => by
     obtain ⟨k, hk, hf2, e⟩ := met_pro h h2
     have : k = k0 := pk_inj hk hpp.1 (by omega)
     rw [this] at hf2
     exact hf hf2
    rw [sub, if_neg hmet, if_neg hf]
    refine ⟨by rw [i1, ← hk0]; rfl, fun k hk hfk => ?_⟩
    rcases Nat.lt_or_ge k k0 with h3 | h3
    ·exact i2 k (by omega) hfk
    ·have e : k = k0 := by omega
     subst e
     exact absurd hfk hf
  ·have ep : prot l (n + 1) = prot l n := by simp only [prot]; rw [if_neg h2]
   rw [ep, sub]
   split
   ·refine ⟨by rw [pro_snoc, if_neg (by rw [ren_kind]; exact h2)]; exact i1, keep _⟩
   ·exact ⟨i1, i2⟩

end Go.Am.Ct

/-
 The record with the acts on which a penalty rests is accepted, and its penalty is the same.
-/
namespace Go.Am.Ct
open Go.Proofs Go.Am.Ap Go.Am.Srt
set_option maxRecDepth 100000
set_option maxHeartbeats 4000000

variable {c : Cod} {l : List Akt} {car m : Int}

attribute [local irreducible] inR

theorem nth_take {n i : Nat} (h : i < n) : nth (l.take n) i = nth l i := by simp [nth, List.getElem?_take, h]

theorem rlast_lo (L : List Akt) (kd k m' : Int) : rlast L kd k m' = -1 ∨ 0 ≤ rlast L kd k m' := by
 have := (rlast_lt L kd k m').1
 omega

theorem take_last (hI : Inv c l) {n : Nat} {kd k : Int} (hn : n ≤ l.length) (h3 : 3 ≤ kd) : (0 ≤ rlast (l.take n) kd k MM → rlast (l.take n) kd k MM = rlast l kd k MM) ∧ (0 ≤ rlast l kd k MM → rlast l kd k MM < n → rlast (l.take n) kd k MM = rlast l kd k MM) := by
 have hln : (l.take n).length = n := by simp; omega
 have one : 0 ≤ rlast (l.take n) kd k MM → rlast (l.take n) kd k MM = rlast l kd k MM := fun h => by
  obtain ⟨i, hi, hil, hk, hc⟩ := at_of h
  rw [hln] at hil
  rw [nth_take hil] at hk hc
  have := hI.uniq i (by omega) (by omega)
  rw [hk, hc] at this
  omega
 refine ⟨one, fun h0 hlt => one ?_⟩
 obtain ⟨i, hi, hil, hk, hc⟩ := at_of h0
 have hin : i < n := by omega
 refine rlast_pos (x := nth l i) ?_ ?_
 ·rw [← nth_take hin, nth_get (by omega)]
  exact List.getElem_mem _
 ·have hmm := hI.mins _ (show nth l i ∈ l by rw [nth_get hil]; exact List.getElem_mem _)
  unfold inR at hmm
  simp at hmm
  unfold isAct
  rw [hk, hc]
  simp
  unfold MM
  omega

theorem sub_iff (hI : Inv c l) {n k : Nat} {kd : Int} (hn : n ≤ l.length) (hmn : ∀ i, i < n → (nth l i).minute ≤ m) (hk : k < (pro l).length) (hf : fk c l car m k = true) (h3 : 3 ≤ kd) :
  (0 ≤ rlast (sub c l car m n) kd (nu c l car m k) MM ↔ 0 ≤ rlast (l.take n) kd k MM) ∧ (0 ≤ rlast (l.take n) kd k MM → nth (sub c l car m n) (rlast (sub c l car m n) kd (nu c l car m k) MM).toNat = ren c l car m (nth (l.take n) (rlast (l.take n) kd k MM).toNat)) := by
 obtain ⟨t1, t2⟩ := take_last hI (k := (k : Int)) hn h3
 have fwd : 0 ≤ rlast (l.take n) kd k MM → 0 ≤ rlast (sub c l car m n) kd (nu c l car m k) MM := fun h => by
  have e := t1 h
  have hlt := (rlast_lt (l.take n) kd k MM).2
  have hln : (l.take n).length = n := by simp; omega
  exact sub_has hI hk hf h3 (by omega) (by omega) (hmn _ (by omega))
 refine ⟨⟨fun h => ?_, fwd⟩, fun h => ?_⟩
 ·obtain ⟨q1, q2, _, _⟩ := sub_last hI hn hk hf h3 h
  rw [t2 q1 q2]
  exact q1
 ·obtain ⟨q1, q2, _, q4⟩ := sub_last hI hn hk hf h3 (fwd h)
  rw [q4, t1 h, nth_take (by omega)]

theorem ren_ok {cars : Int} {a : Akt} (h : actOk cars a = true) : actOk cars (ren c l car m a) = true := by
 unfold ren
 split
 ·exact h
 ·rename_i hk
  have h1 : ¬ a.kind = 1 := fun e => hk (.inl e)
  have h2 : ¬ a.kind = 2 := fun e => hk (.inr e)
  unfold actOk only sameBut at h ⊢
  simp only [h1, h2, if_false] at h ⊢
  by_cases h3 : a.kind = 3 ∨ a.kind = 5
  ·simp only [h3, if_true] at h ⊢
   simp only [Bool.and_eq_true, decide_eq_true_eq, beq_iff_eq] at h ⊢
   refine ⟨⟨⟨⟨h.1.1.1.1, by omega⟩, h.1.1.2⟩, h.1.2⟩, ?_⟩
   simpa using h.2
  ·simp only [h3, if_false] at h ⊢
   by_cases h4 : a.kind = 4
   ·simp only [h4, if_true] at h ⊢
    simp only [Bool.and_eq_true, decide_eq_true_eq, beq_iff_eq] at h ⊢
    refine ⟨⟨⟨⟨⟨h.1.1.1.1.1, by omega⟩, h.1.1.1.2⟩, h.1.1.2⟩, h.1.2⟩, ?_⟩
    simpa using h.2
   ·simp only [h4, if_false] at h ⊢
    by_cases h6 : a.kind = 6
    ·simp only [h6, if_true] at h ⊢
     simp only [Bool.and_eq_true, decide_eq_true_eq, beq_iff_eq] at h ⊢
     refine ⟨⟨⟨⟨h.1.1.1.1, by omega⟩, h.1.1.2⟩, h.1.2⟩, ?_⟩
     simpa using h.2
    ·simp only [h6, if_false] at h ⊢
     cases h

theorem pub_uniq (hA : Acc c l) {p : Int} {i j : Nat} (hi : i < l.length) (hj : j < l.length) (h1 : isPub p (nth l i) = true) (h2 : isPub p (nth l j) = true) : i = j := by
 have key : ∀ i j, j < l.length → i < j → isPub p (nth l i) = true → isPub p (nth l j) = true → False := fun i j hj hij h1 h2 => by
  have hkd : (nth l j).kind = 1 ∧ (nth l j).paper = p := by unfold isPub at h2; simpa using h2
  have g := (good_of (hA j hj)).pub hkd.1
  rw [hkd.2] at g
  have hmem : nth l i ∈ l.take j := by
   rw [← nth_take hij, nth_get (by simp; omega)]
   exact List.getElem_mem _
  obtain ⟨q, hq, _⟩ := fi_pos hmem h1
  omega
 rcases Nat.lt_trichotomy i j with h | h | h
 ·exact absurd (key i j hj h h1 h2) id
 ·exact h
 ·exact absurd (key j i hi h h2 h1) id

theorem fi_mem {P : Akt → Bool} {L : List Akt} (h : 0 ≤ fi P L) : ∃ i : Nat, fi P L = i ∧ i < L.length ∧ P (nth L i) = true := by
 rcases fi_cases P L with ⟨h1, _⟩ | ⟨i, hi, h1, hP, _⟩
 ·omega
 ·exact ⟨i, h1, hi, by rw [nth_get hi]; exact hP⟩

theorem sub_prot {n k : Nat} (hn : n ≤ l.length) (hk : k < (prot l n).length) (hf : fk c l car m k = true) : nu c l car m k < (pro (sub c l car m n)).length ∧ nth (sub c l car m n) ((pro (sub c l car m n)).getD (nu c l car m k) 0) = nth l (pk l k) := by
 obtain ⟨s1, s2⟩ := sub_pro c l car m n hn
 obtain ⟨q, h1, h2⟩ := s2 k hk hf
 refine ⟨by rw [s1]; exact nu_lt hk hf, ?_⟩
 rw [List.getD_eq_getElem?_getD, h1]
 exact h2

theorem take_prot {n k : Nat} (hn : n ≤ l.length) (hk : k < (prot l n).length) : (pro (l.take n)) = prot l n ∧ nth (l.take n) ((pro (l.take n)).getD k 0) = nth l (pk l k) := by
 have hln : (l.take n).length = n := by simp; omega
 have e : pro (l.take n) = prot l n := by unfold pro; rw [hln]; exact prot_take (Nat.le_refl _) hn
 refine ⟨e, ?_⟩
 rw [e, List.getD_eq_getElem?_getD, (pk_pre hn hk).2, Option.getD_some]
 have := prot_lt l n _ (List.mem_of_getElem? (pk_pre hn hk).2)
 exact nth_take this

theorem sub_ok (hA : Acc c l) {n : Nat} (hn : n < l.length) (hS : Acc c (sub c l car m n)) (hmt : metB c l car m n = true) : refused c (sub c l car m n) (ren c l car m (nth l n)) = 0 := by
 have hI := inv_of l hA
 have hlen := hI.len
 have g := good_of (hA n hn)
 have hln : (l.take n).length = n := by simp; omega
 have hmn : (nth l n).minute ≤ m := (of_met hmt).1
 have hmns : ∀ i, i < n → (nth l i).minute ≤ m := fun i hi => by
  have := hI.sorted i n (by omega) hn
  omega
 have hsl := sub_len (c := c) (l := l) (car := car) (m := m) n
 have hlate : ¬ (actOk c.cars (ren c l car m (nth l n)) = false ∨ (0 < (sub c l car m n).length ∧ (ren c l car m (nth l n)).minute < (nth (sub c l car m n) ((sub c l car m n).length - 1)).minute)) := by
  rintro (h | ⟨h1, h2⟩)
  ·rw [ren_ok g.ok] at h; cases h
  ·have hmem : nth (sub c l car m n) ((sub c l car m n).length - 1) ∈ sub c l car m n := by rw [nth_get (by omega)]; exact List.getElem_mem _
   obtain ⟨i, hi, _, e⟩ := mem_sub.1 hmem
   rw [e, ren_minute, ren_minute] at h2
   have := hI.sorted i n (by omega) hn
   omega
 unfold refused
 rw [if_neg hlate, if_neg (by omega), ren_kind]
 have hkd := actOk_kind g.ok
 by_cases k1 : (nth l n).kind = 1
 ·rw [if_pos k1, ren_low (.inl k1)]
  refine if_neg fun h => ?_
  obtain ⟨i, _, hil, hP⟩ := fi_mem h
  have hmem : nth (sub c l car m n) i ∈ sub c l car m n := by rw [nth_get hil]; exact List.getElem_mem _
  obtain ⟨i', hi', _, e⟩ := mem_sub.1 hmem
  rw [e] at hP
  have hP' : isPub (nth l n).paper (nth l i') = true := by
   have hk' : (nth l i').kind = 1 := by unfold isPub at hP; rw [ren_kind] at hP; simp at hP; exact hP.1
   rwa [ren_low (.inl hk')] at hP
  have := pub_uniq hA (by omega) hn hP' (by unfold isPub; simp [k1])
  omega
 rw [if_neg k1]
 by_cases k2 : (nth l n).kind = 2
 ·rw [if_pos k2, ren_low (.inr k2)]
  obtain ⟨g1, g2, g3, g4⟩ := g.prt k2
  obtain ⟨i0, e0, hi0, hP0⟩ := fi_mem g1
  rw [hln] at hi0
  rw [nth_take hi0] at hP0
  rw [e0, Int.toNat_natCast, nth_take hi0] at g3
  obtain ⟨k, hk, hf, ek⟩ := met_pro hmt k2
  obtain ⟨i1, e1, hi1⟩ := pub_before hA hn k2
  have hPi1 : isPub (nth l n).paper (nth l i1) = true := by
   obtain ⟨q, hq, _, hPq⟩ := fi_mem (show 0 ≤ fi (isPub (nth l n).paper) l by omega)
   rwa [show i1 = q by omega]
  have e01 : i0 = i1 := pub_uniq hA (by omega) (by omega) hP0 hPi1
  have hm0 : metB c l car m i0 = true := by
   refine met_of (hmns i0 hi0) hk hf ?_
   unfold touch
   rw [← ek, e1, e01]
   simp
  have hkd0 : (nth l i0).kind = 1 := by unfold isPub at hP0; simp at hP0; exact hP0.1
  have hin : nth l i0 ∈ sub c l car m n := mem_sub.2 ⟨i0, hi0, hm0, by rw [ren_low (.inl hkd0)]⟩
  obtain ⟨q, hq, hql, hPq⟩ := fi_pos hin hP0
  have hmem : nth (sub c l car m n) q ∈ sub c l car m n := by rw [nth_get hql]; exact List.getElem_mem _
  obtain ⟨i', hi', _, e⟩ := mem_sub.1 hmem
  rw [e] at hPq
  have hk' : (nth l i').kind = 1 := by unfold isPub at hPq; rw [ren_kind] at hPq; simp at hPq; exact hPq.1
  rw [ren_low (.inl hk')] at e hPq
  have e2 : i' = i0 := pub_uniq hA (by omega) (by omega) hPq hP0
  rw [if_neg (by rw [hq, g2]; rintro (h | h); omega; cases h), hq, Int.toNat_natCast, e, e2, if_neg (by omega), if_neg (by simp [g4])]
 rw [if_neg k2]
 have h3 : 3 ≤ (nth l n).kind := by omega
 obtain ⟨k, hk, hf, ek⟩ := met_own hI hn hmt h3
 have hcl := (g.cse h3).2
 rw [ek] at hcl
 have hpn : k < (prot l n).length := by
  have e : pro (l.take n) = prot l n := by unfold pro; rw [hln]; exact prot_take (Nat.le_refl _) (by omega)
  rw [e] at hcl
  omega
 obtain ⟨t1, t2⟩ := take_prot (by omega : n ≤ l.length) hpn
 obtain ⟨s1, s2⟩ := sub_prot (c := c) (car := car) (m := m) (by omega : n ≤ l.length) hpn hf
 have ec : (ren c l car m (nth l n)).cse = nu c l car m k := by rw [ren_cse h3, ek, Int.toNat_natCast]
 have rsame := ren_same (c := c) (l := l) (car := car) (m := m) (nth l n)
 obtain ⟨r1, r2, r3, r4, r5⟩ := rsame
 have J := fun kd h => sub_iff (kd := kd) hI (by omega : n ≤ l.length) hmns hk hf h
 have hfit : fitsR c (sub c l car m n) (ren c l car m (nth l n)) = fitsR c (l.take n) (nth l n) := by
  unfold fitsR
  have t2' : nth (l.take n) ((prot (l.take n) (l.take n).length).getD k 0) = nth l (pk l k) := t2
  have s2' : nth (sub c l car m n) ((prot (sub c l car m n) (sub c l car m n).length).getD (nu c l car m k) 0) = nth l (pk l k) := s2
  rw [r1, r2, ec, ek, Int.toNat_natCast, Int.toNat_natCast, t2', s2']
 rw [ec, if_neg (by unfold pro at s1; omega)]
 have s2' : nth (sub c l car m n) ((prot (sub c l car m n) (sub c l car m n).length).getD ((nu c l car m k : Nat) : Int).toNat 0) = nth l (pk l k) := by rw [Int.toNat_natCast]; exact s2
 simp only [s2']
 have pkn : nth (l.take n) ((pro (l.take n)).getD (nth l n).cse.toNat 0) = nth l (pk l k) := by rw [ek, Int.toNat_natCast]; exact t2
 by_cases e3 : (nth l n).kind = 3
 ·obtain ⟨q1, q2, q3⟩ := g.dec e3
  rw [ek] at q1 q2
  have a6 := (J 6 (by omega)).1
  have a3 := (J 3 (by omega)).1
  rw [if_pos e3, if_neg (by unfold MM at *; omega), if_neg (by rw [hfit, q3]; simp)]
 rw [if_neg e3]
 by_cases e4 : (nth l n).kind = 4
 ·obtain ⟨q1, q2, q3, q4, q5⟩ := g.app e4
  rw [ek] at q1 q2 q4
  rw [pkn] at q3
  have a4 := (J 4 (by omega)).1
  have a3 := (J 3 (by omega)).1
  have b3 := (J 3 (by omega)).2 q1
  rw [if_pos e4, if_neg (by unfold MM at *; omega), if_neg (by rw [r3]; rintro ⟨x1, x2⟩; rcases q3 with x | x; exact x1 x; exact x2 x)]
  have b3' : (nth (sub c l car m n) (rlast (sub c l car m n) 3 (nu c l car m k) 10000000).toNat).minute = (nth (l.take n) (rlast (l.take n) 3 k MM).toNat).minute := by
   have := congrArg Akt.minute b3
   rw [ren_minute] at this
   exact this
  rw [if_neg (by rw [b3', ren_minute]; omega), if_neg (by rw [r4]; omega)]
 rw [if_neg e4]
 by_cases e5 : (nth l n).kind = 5
 ·obtain ⟨q1, q2, q3⟩ := g.jud e5
  rw [ek] at q1 q2
  have a4 := (J 4 (by omega)).1
  have a5 := (J 5 (by omega)).1
  rw [if_pos e5, if_neg (by unfold MM at *; omega), if_neg (by rw [hfit, q3]; simp)]
 rw [if_neg e5]
 obtain ⟨q1, q2, q3⟩ := g.drp (by omega)
 rw [ek] at q1 q2
 rw [pkn] at q3
 have a6 := (J 6 (by omega)).1
 have a3 := (J 3 (by omega)).1
 rw [if_neg (by unfold MM at *; omega), if_neg (by rw [r3, q3]; simp)]

theorem sub_acc (hA : Acc c l) : ∀ n, n ≤ l.length → Acc c (sub c l car m n)
 | 0, _ => acc_nil c
 | n + 1, h => by
  have ih := sub_acc hA n (by omega)
  rw [sub]
  split
  ·rename_i hmt
   exact acc_snoc.2 ⟨ih, sub_ok hA (by omega) ih hmt⟩
  ·exact ih

end Go.Am.Ct

/-
 The penalty of the record that is kept.
-/
namespace Go.Am.Ct
open Go.Proofs Go.Am.Ap Go.Am.Srt
set_option maxRecDepth 100000
set_option maxHeartbeats 4000000

variable {c : Cod} {l : List Akt} {car m : Int}

attribute [local irreducible] inR

theorem sum_nu (c : Cod) (l : List Akt) (car m : Int) (f : Nat → Int) : ∀ K, sumTo f (nu c l car m K) = sumTo (fun k => if fk c l car m k = true then f (nu c l car m k) else 0) K
 | 0 => rfl
 | K + 1 => by
  rw [nu_succ, sumTo_succ (fun k => if fk c l car m k = true then f (nu c l car m k) else 0)]
  show _ = _ + (if fk c l car m K = true then f (nu c l car m K) else 0)
  by_cases h : fk c l car m K = true
  ·rw [if_pos h, if_pos h, sumTo_succ, sum_nu c l car m f K]
  ·rw [if_neg h, if_neg h, Nat.add_zero, Int.add_zero]
   exact sum_nu c l car m f K

theorem sub_m (hA : Acc c l) (hm : m ≤ MM) {k : Nat} {kd : Int} (hk : k < (pro l).length) (hf : fk c l car m k = true) (h3 : 3 ≤ kd) :
  (0 ≤ rlast (sub c l car m l.length) kd (nu c l car m k) m ↔ 0 ≤ rlast l kd k m) ∧ (0 ≤ rlast l kd k m → nth (sub c l car m l.length) (rlast (sub c l car m l.length) kd (nu c l car m k) m).toNat = ren c l car m (nth l (rlast l kd k m).toNat)) := by
 have hI := inv_of l hA
 have hIS := inv_of _ (sub_acc (car := car) (m := m) hA l.length (Nat.le_refl _))
 have hSm : ∀ i, i < (sub c l car m l.length).length → (nth (sub c l car m l.length) i).minute ≤ m := fun i hi => by
  obtain ⟨i', _, hmt, e⟩ := mem_sub.1 (show nth (sub c l car m l.length) i ∈ sub c l car m l.length by rw [nth_get hi]; exact List.getElem_mem _)
  rw [e, ren_minute]
  exact (of_met hmt).1
 have hlt := (rlast_lt (sub c l car m l.length) kd (nu c l car m k) MM).2
 have eS : rlast (sub c l car m l.length) kd (nu c l car m k) m = rlast (sub c l car m l.length) kd (nu c l car m k) MM := by
  rw [rl_m hIS h3 hm]
  split
  ·rfl
  ·rename_i hn
   rcases rlast_lo (sub c l car m l.length) kd (nu c l car m k) MM with h | h
   ·exact h.symm
   ·exact absurd ⟨h, hSm _ (by omega)⟩ hn
 have hl := (rlast_lt l kd k MM).2
 have eL := rl_m hI (k := (k : Int)) h3 hm
 have back : 0 ≤ rlast l kd k m → 0 ≤ rlast l kd k MM ∧ (nth l (rlast l kd k MM).toNat).minute ≤ m ∧ rlast l kd k m = rlast l kd k MM := fun h => by
  rw [eL] at h ⊢
  split at h
  ·rename_i hh
   rw [if_pos hh]
   exact ⟨hh.1, hh.2, rfl⟩
  ·omega
 rw [eS]
 refine ⟨⟨fun h => ?_, fun h => ?_⟩, fun h => ?_⟩
 ·obtain ⟨q1, q2, q3, _⟩ := sub_last hI (Nat.le_refl _) hk hf h3 h
  rw [eL, if_pos ⟨q1, q3⟩]
  exact q1
 ·obtain ⟨q1, q2, _⟩ := back h
  exact sub_has hI hk hf h3 q1 hl q2
 ·obtain ⟨q1, q2, q3⟩ := back h
  have := sub_has hI hk hf h3 q1 hl q2
  rw [(sub_last hI (Nat.le_refl _) hk hf h3 this).2.2.2, q3]

theorem sub_case (hA : Acc c l) (hm : m ≤ MM) {k : Nat} (hk : k < (pro l).length) (hf : fk c l car m k = true) : penK c (sub c l car m l.length) car m (nu c l car m k) = penK c l car m k := by
 obtain ⟨p1, p2⟩ := sub_prot (c := c) (car := car) (m := m) (Nat.le_refl l.length) hk hf
 obtain ⟨f1, f2, _⟩ := fk_there hk hf
 have hp : nth (sub c l car m l.length) (pk (sub c l car m l.length) ((nu c l car m k : Nat) : Int)) = nth l (pk l k) := by
  unfold pk
  rw [Int.toNat_natCast]
  exact p2
 have J := fun kd h => sub_m (kd := kd) hA hm hk hf h
 have eA : agB (sub c l car m l.length) car (nu c l car m k) = agB l car k := by unfold agB; rw [hp]
 have eT : thereB (sub c l car m l.length) ((nu c l car m k : Nat) : Int) m = thereB l (k : Int) m := by
  unfold thereB
  rw [hp, decide_eq_true (show (0 : Int) ≤ ((nu c l car m k : Nat) : Int) by omega), decide_eq_true (show (0 : Int) ≤ (k : Int) by omega), decide_eq_true (show ((nu c l car m k : Nat) : Int) < ((pro (sub c l car m l.length)).length : Int) by omega), decide_eq_true (show (k : Int) < ((pro l).length : Int) by omega)]
 have j3 := (J 3 (by omega)).1
 have j4 := (J 4 (by omega)).1
 have j5 := (J 5 (by omega)).1
 have j6 := (J 6 (by omega)).1
 have b3 := (J 3 (by omega)).2
 have b5 := (J 5 (by omega)).2
 have eS : stR c (sub c l car m l.length) ((nu c l car m k : Nat) : Int) m = stR c l (k : Int) m := by
  unfold stR
  by_cases h6 : 0 ≤ rlast l 6 k m
  ·rw [if_pos h6, if_pos (j6.2 h6)]
  rw [if_neg h6, if_neg (fun h => h6 (j6.1 h))]
  by_cases h5 : 0 ≤ rlast l 5 k m
  ·rw [if_pos h5, if_pos (j5.2 h5)]
  rw [if_neg h5, if_neg (fun h => h5 (j5.1 h))]
  by_cases h4 : 0 ≤ rlast l 4 k m
  ·rw [if_pos h4, if_pos (j4.2 h4)]
  rw [if_neg h4, if_neg (fun h => h4 (j4.1 h))]
  by_cases h3 : 0 ≤ rlast l 3 k m
  ·have := j3.2 h3
   rw [if_neg (show ¬ rlast (sub c l car m l.length) 3 (nu c l car m k) m < 0 by omega), if_neg (show ¬ rlast l 3 k m < 0 by omega), b3 h3, ren_minute]
  ·have : ¬ 0 ≤ rlast (sub c l car m l.length) 3 (nu c l car m k) m := fun h => h3 (j3.1 h)
   rw [if_pos (by omega), if_pos (by omega)]
 have eR : rulR (sub c l car m l.length) ((nu c l car m k : Nat) : Int) m = (rulR l (k : Int) m).map (ren c l car m) := by
  unfold rulR
  by_cases h5 : 0 ≤ rlast l 5 k m
  ·rw [if_pos h5, if_pos (j5.2 h5), b5 h5]
   rfl
  rw [if_neg h5, if_neg (fun h => h5 (j5.1 h))]
  by_cases h3 : 0 ≤ rlast l 3 k m
  ·rw [if_pos h3, if_pos (j3.2 h3), b3 h3]
   rfl
  ·rw [if_neg h3, if_neg (fun h => h3 (j3.1 h))]
   rfl
 have eRu : ruled c (sub c l car m l.length) ((nu c l car m k : Nat) : Int) m = ruled c l (k : Int) m := by unfold ruled; rw [eS]
 have eU : ∀ o : Option Akt, ((o.map (ren c l car m)).getD Akt.zero).penalty = (o.getD Akt.zero).penalty ∧ ((o.map (ren c l car m)).getD Akt.zero).upheld = (o.getD Akt.zero).upheld ∧ (o.map (ren c l car m)).isSome = o.isSome := fun o => by
  cases o
  ·exact ⟨rfl, rfl, rfl⟩
  ·have := ren_same (c := c) (l := l) (car := car) (m := m)
   exact ⟨(this _).2.1, (this _).1, rfl⟩
 unfold penK ctb fB fP frB frP
 rw [eA, eT, eRu, eR]
 simp only [(eU _).1, (eU _).2.1, (eU _).2.2]

theorem sub_pen (hA : Acc c l) (hm : m ≤ MM) : penR c (sub c l car m l.length) car m = penR c l car m := by
 rw [pen_sum, pen_sum, show (pro (sub c l car m l.length)).length = nu c l car m (pro l).length from (sub_pro c l car m l.length (Nat.le_refl _)).1, sum_nu]
 refine sumTo_congr fun k hk => ?_
 split
 ·rename_i hf
  exact sub_case hA hm hk hf
 ·rename_i hf
  unfold fk at hf
  unfold penK ctb
  cases h : agB l car k
  ·rfl
  ·cases h2 : fB c l k m
   ·rfl
   ·rw [h, h2] at hf; exact absurd rfl hf

theorem no_pen (hA : Acc c l) (h : gR c l car m = []) : penR c l car m = 0 := by
 rw [pen_sum]
 have : sumTo (penK c l car m) (pro l).length = sumTo (fun _ => 0) (pro l).length := sumTo_congr fun k hk => by
  by_cases hf : fk c l car m k = true
  ·exfalso
   have hmt := met_case hk hf
   have : pk l k ∈ gR c l car m := by
    unfold gR
    rw [List.mem_filter, List.mem_range]
    exact ⟨pk_lt hk, hmt⟩
   rw [h] at this
   cases this
  ·unfold fk at hf
   unfold penK ctb
   cases h : agB l car k
   ·rfl
   ·cases h2 : fB c l k m
    ·rfl
    ·rw [h, h2] at hf; exact absurd rfl hf
 rw [this]
 unfold sumTo
 induction (pro l).length with
 | zero => rfl
 | succ n ih => rw [List.range_succ, List.map_append, List.sum_append, ih]; rfl

/-! ## the loop's states -/

theorem sub_count (n : Nat) : (pro (sub c l car m n)).length = (((List.range n).filter (metB c l car m)).filter fun i => (nth l i).kind == 2).length := by
 induction n with
 | zero => rfl
 | succ n ih =>
  rw [sub, List.range_succ, List.filter_append, List.filter_append, List.length_append, ← ih]
  cases hm : metB c l car m n
  ·simp [hm]
  ·rw [if_pos rfl, pro_snoc, ren_kind]
   by_cases h2 : (nth l n).kind = 2
   ·simp [hm, h2]
   ·simp [hm, h2]

theorem cut_range {P : Nat → Bool} {x : Nat} {r : List Nat} : ∀ {n : Nat} {pre : List Nat}, (List.range n).filter P = pre ++ x :: r → x < n ∧ P x = true ∧ pre = (List.range x).filter P
 | 0, pre, h => by simp at h
 | n + 1, pre, h => by
  rw [List.range_succ, List.filter_append] at h
  cases hP : P n
  ·simp only [List.filter_cons, hP, List.filter_nil, List.append_nil] at h
   obtain ⟨h1, h2, h3⟩ := cut_range (by simpa using h)
   exact ⟨by omega, h2, h3⟩
  ·simp only [List.filter_cons, hP, List.filter_nil, if_true] at h
   rcases List.eq_nil_or_concat r with rfl | ⟨r', y, rfl⟩
   ·have := List.append_inj' h rfl
    have hx : n = x := by simpa using this.2
    subst hx
    exact ⟨by omega, hP, this.1.symm⟩
   ·rw [List.concat_eq_append, ← List.cons_append, ← List.append_assoc] at h
    have := List.append_inj' h rfl
    obtain ⟨h1, h2, h3⟩ := cut_range this.1
    exact ⟨by omega, h2, h3⟩

theorem prot_pk {k : Nat} (hk : k < (pro l).length) : (prot l (pk l k)).length = k := by
 obtain ⟨r, hr⟩ := pro_pre (l := l) (n := pk l k) (Nat.le_of_lt (pk_lt hk))
 have hkind : (nth l (pk l k)).kind = 2 := by rw [pk_get hk]; exact pro_kind (List.getElem_mem _)
 have e1 : prot l (pk l k + 1) = prot l (pk l k) ++ [pk l k] := by simp only [prot]; rw [if_pos hkind]
 have h1 : (prot l (pk l k)).length < (prot l (pk l k + 1)).length := by rw [e1]; simp
 obtain ⟨h2, h3⟩ := pk_pre (l := l) (n := pk l k + 1) (k := (prot l (pk l k)).length) (pk_lt hk) h1
 rw [e1, List.getElem?_append_right (Nat.le_refl _), Nat.sub_self] at h3
 have h4 : pk l k = pk l ((prot l (pk l k)).length : Nat) := by simpa using h3
 exact (pk_inj hk h2 h4).symm

theorem cut_count {x k : Nat} {pre r : List Nat} (hk : k < (pro l).length) (hx : x = pk l k) (h : gR c l car m = pre ++ x :: r) : (pre.filter fun i => (nth l i).kind == 2).length = nu c l car m k := by
 obtain ⟨_, _, e⟩ := cut_range h
 rw [e, ← sub_count, (sub_pro c l car m x (by rw [hx]; exact Nat.le_of_lt (pk_lt hk))).1, hx, prot_pk hk]

theorem cut_has {x y : Nat} {pre r : List Nat} (h : gR c l car m = pre ++ x :: r) (hy : metB c l car m y = true) (hlt : y < x) : y ∈ pre := by
 obtain ⟨_, _, e⟩ := cut_range h
 rw [e, List.mem_filter, List.mem_range]
 exact ⟨hlt, hy⟩

end Go.Am.Ct

/-
 The law on records that are replayed.
-/
namespace Go.Am.Ct
open Go.Proofs Go.Am.Ap
set_option maxRecDepth 100000
set_option maxHeartbeats 4000000

variable {bs : List D} {c : Cod} {l : List Akt}

attribute [local irreducible] inR

end Go.Am.Ct

/-
 The law of the past.
-/
namespace Go.Am.Ct
open Go.Proofs Go.Am.Ap
set_option maxRecDepth 100000
set_option maxHeartbeats 4000000

variable {c : Cod} {l : List Akt} {bs : List D}

attribute [local irreducible] inR

end Go.Am.Ct

/-
 The law on what a penalty rests on.
-/
namespace Go.Am.Ct
open Go.Proofs Go.Am.Ap Go.Am.Srt
set_option maxRecDepth 100000
set_option maxHeartbeats 4000000

variable {c : Cod} {l : List Akt} {bs : List D} {j : Nat} {F : Nat → Prop} {car m : Int}

attribute [local irreducible] inR

theorem idxR {X : List Int} {i : Nat} {v : Int} (h : X[i]? = some v) : D.idx (Is X) (I i) = some (I v) := by
 simp [D.idx, h]
theorem setR {X : List Int} {i : Nat} (h : i < X.length) (y : Int) : D.set (Is X) (I i) 0 (I y) = some (Is (X.set i y)) := by
 simp [D.set, h, D.putAt, D.one]
theorem cidxR {x y : E} {env : List D} {X : List Int} {i : Nat} {v : Int} (hv : X[i]? = some v) (hx : x.eval env = some (Is X)) (hy : y.eval env = some (I i)) : (E.cell 0 (.idx x y)).eval env = some (I v) := by
 simp only [E.eval, hx, hy, Option.bind_some, idxR hv]
 rfl
theorem cidxV {x y : E} {env : List D} {X : List Int} {i v : Int} (hv : D.idx (Is X) (I i) = some (I v)) (hx : x.eval env = some (Is X)) (hy : y.eval env = some (I i)) : (E.cell 0 (.idx x y)).eval env = some (I v) := by
 simp only [E.eval, hx, hy, Option.bind_some, hv]
 rfl
theorem repR {n : Nat} (h : n ≤ 1000000) : D.rep 8 (I n) (.v (.int .i64 0)) = some (Is (List.replicate n 0)) := by
 unfold D.rep
 simp only
 rw [if_pos (by unfold maxLen; omega)]
 simp [List.map_replicate]

theorem sub_fac (hF : Fac l) (n : Nat) : Fac (sub c l car m n) := fun a ha => by
 obtain ⟨i, _, _, rfl⟩ := mem_sub.1 ha
 rw [(ren_same _).2.2.2.2]
 rcases Nat.lt_or_ge i l.length with h | h
 ·rw [nth_get h]; exact hF _ (List.getElem_mem h)
 ·simp [nth, h, Akt.zero]

theorem gR_sorted {i : Nat} {x y : Nat} (h1 : (gR c l car m)[i]? = some x) (h2 : (gR c l car m)[i + 1]? = some y) : x < y := by
 have hp : (gR c l car m).Pairwise (· < ·) := List.Pairwise.filter _ List.pairwise_lt_range
 obtain ⟨q1, rfl⟩ := List.getElem?_eq_some_iff.1 h1
 obtain ⟨q2, rfl⟩ := List.getElem?_eq_some_iff.1 h2
 exact (List.pairwise_iff_getElem.1 hp) i (i + 1) q1 q2 (by omega)

structure Lp (c : Cod) (l : List Akt) (car m : Int) (r : List Nat) (s : List Akt × Nat × List Int) : Prop where
 ex : ∃ pre, gR c l car m = pre ++ r ∧ s.1 = pre.map (fun i => ren c l car m (nth l i)) ∧ s.2.1 = (pre.filter fun i => (nth l i).kind == 2).length ∧ s.2.2.length = (pro l).length ∧ ∀ k, k < (pro l).length → fk c l car m k = true → pk l k ∈ pre → s.2.2[k]? = some ((nu c l car m k : Nat) : Int)

theorem c14 (c : Cod) (l : List Akt) (car m : Int) : ∃ h', FSpecWO Try.prog 14 (.st []) [c.d, Rec l, I car, I m] (.ret (B true)) h' := by
 have k21 := c21 (bs := []) c
 obtain ⟨b22, k22, hb22⟩ := c22 (bs := []) l
 have k23 := c23 (bs := []) c
 have k16 := known_spec []
 have k34 := c34 (bs := []) (c := c) car m
 cases hB : (((!(decide ((c.arts.length : Int) ≤ 20) || (decide (500 < (c.arts.length : Int)) && decide ((c.arts.length : Int) < 600)))) || (!b22)) || (!okCode c)) || (!rightB c car m)
 rotate_left
 ·refine ⟨.st [], ku14.writeO rfl ?_⟩
  unfold u14
  simp only [ups_cons, ups_nil, List.cons_append, List.nil_append]
  repeat' (first | ((with_reducible apply nrm); (· simp only [sbe]; rfl)) | ((with_reducible apply u_iteT); (· rfl); (· exact hB)) | ((with_reducible apply u_chk); (· rfl)) | ((with_reducible apply u_ev); (· rfl); (· simp only [sbe]; rfl)) | ((with_reducible apply u_call); (· rfl); (· rfl); (· first | exact k21 | exact k22 | exact k23 | exact k34 | exact k16); (· rfl); (· simp only [sbe]; rfl)) | ((with_reducible apply u_or); (· rfl)) | (with_reducible exact u_ret rfl rfl) | ((with_reducible apply u_ret); (· rfl); first | exact rfl | (refine retB ?_) | (refine retI ?_) | (refine retD ?_)) | ((with_reducible intro hz); (try simp only [sbs] at hz)))
 ·have hB2 := hB
  simp only [Bool.or_eq_false_iff, Bool.not_eq_false'] at hB2
  obtain ⟨⟨⟨_, h2⟩, h3⟩, hr⟩ := hB2
  rw [right_pen] at hr
  obtain ⟨hl, hfa⟩ := hb22 h2
  have hc := codOk_of h3
  have hF : Fac l := fun a ha => by have := hfa a ha; omega
  have k30 := c30 (bs := []) h3 (by omega) hF
  obtain ⟨s, hs⟩ : ∃ s, s = crt (codOk_of h3) [] l := ⟨_, rfl⟩
  have hsl : s.l = rec c l := by rw [hs]; exact crt_l _ _ hF
  rw [← hs, ← hsl] at k30
  have hI := inv_of _ s.acc
  have hlen := hI.len
  have kk := fun bs => known_spec bs
  have hmb : 0 ≤ m ∧ m ≤ MM := by
   unfold penB at hr
   unfold MM
   simp only [Bool.and_eq_true] at hr
   have := hr.2
   unfold inR at this
   simpa using this
  obtain ⟨sa, sf, fs, hcrt⟩ := s.crt
  obtain ⟨g, B0, k49', hg0, hBl, hBk⟩ := c49g s.acc hcrt car m hr
  have k49 := FSpecWO.kill k49'
  have hg1 : g.one = true := by rcases hg0 with ⟨_, rfl⟩ | ⟨_, rfl, _⟩ <;> rfl
  have hfit : D.fits [true, true] (.tup [g, I 0]) = true := by
   simp [D.fits, fitsAll, hg1]
   rfl
  obtain ⟨B1, hB1⟩ : ∃ B1, B1 = Go.Am.kill B0 := ⟨_, rfl⟩
  have hg2 : SlOf B1 3 1 (fun x : Int => [I x]) g ((gR c s.l car m).map fun i : Nat => (i : Int)) := by rw [hB1]; exact hg0.kill fun x _ => rfl
  have n1 : noyls B1 = true := by rw [hB1]; exact kill_noyl _
  have X1 : Court B1 s.F ([] : List D).length c s.l := by
   rw [hB1]
   exact Court.kill ⟨sa, sf, fs, hcrt.keep hBl fun k hk => hBk k (hcrt.lt k hk)⟩
  rw [← hB1] at k49
  obtain ⟨_, _, _, X1⟩ := X1
  have k32a := c32 s.acc X1 n1 car m hr
  obtain ⟨Y1, hY1⟩ : ∃ Y, Y = ysto B1 c m s.l ((agC s.l car).any (cpr c s.l m)) (upN s.l m) := ⟨_, rfl⟩
  rw [← hY1] at k32a
  have ny1 : noyls Y1 = true := by rw [hY1]; exact ysto_noyl n1 _ _ _
  have hg : SlOf Y1 3 1 (fun x : Int => [I x]) g ((gR c s.l car m).map fun i : Nat => (i : Int)) := hg2.keep fun i hi => by
   rw [hY1]
   unfold ysto
   rw [List.getElem?_append_left (hg2.lt hi)]
  have hbF : Fac (sub c s.l car m s.l.length) := sub_fac (fun a ha => s.fac a ha) _
  have hsA := sub_acc (car := car) (m := m) s.acc s.l.length (Nat.le_refl _)
  have hbl := sub_len (c := c) (l := s.l) (car := car) (m := m) s.l.length
  have k42 := c42y (bs := Y1) h3 (by omega) hbF hsA
  obtain ⟨t, ht⟩ : ∃ t, t = crt (codOk_of h3) Y1 (sub c s.l car m s.l.length) := ⟨_, rfl⟩
  have htl : t.l = sub c s.l car m s.l.length := by rw [ht, crt_l _ _ hbF]; exact rec_acc _ hsA
  rw [← ht] at k42
  obtain ⟨_, _, _, T1⟩ := t.crt
  have k32b := c32 t.acc T1 t.ny car m hr
  obtain ⟨Y2, hY2⟩ : ∃ Y, Y = ysto t.bs c m t.l ((agC t.l car).any (cpr c t.l m)) (upN t.l m) := ⟨_, rfl⟩
  rw [← hY2, htl, sub_pen s.acc hmb.2] at k32b
  obtain ⟨pv, hpv⟩ : ∃ pv, pv = prvR c (sub c s.l car m s.l.length) car m := ⟨_, rfl⟩
  rw [← hpv] at k32b
  obtain ⟨G, hG⟩ : ∃ G, G = gR c s.l car m := ⟨_, rfl⟩
  have hGl : G.length ≤ 2000 := by
   have := List.length_filter_le (metB c s.l car m) (List.range s.l.length)
   rw [List.length_range] at this
   rw [hG]
   unfold gR
   omega
  have hpl : (pro s.l).length ≤ s.l.length := by unfold pro; have := prot_len s.l s.l.length; omega
  rw [← hG] at hg
  have hrp := repR (n := (prot s.l s.l.length).length) (by unfold pro at hpl; omega)
  have hz := fun h => no_pen (car := car) (m := m) s.acc h
  rw [← hG] at hz
  refine ⟨.st Y2, ku14.writeO rfl ?_⟩
  unfold u14
  simp only [ups_cons, ups_nil, List.cons_append, List.nil_append]
  repeat' (first | ((with_reducible apply nrm); (· simp only [sbe]; rfl)) | ((with_reducible apply u_iteF); (· rfl); (· first | exact hB | exact rfl)) | ((with_reducible apply u_chk); (· rfl)) | ((with_reducible apply u_ev); (· rfl); (· simp only [sbe]; rfl)) | ((with_reducible apply u_call); (· rfl); (· rfl); (· first | exact k21 | exact k22 | exact k23 | exact k34); (· rfl); (· simp only [sbe]; rfl)) | ((with_reducible apply u_wcall); (· rfl); (· rfl); (· exact k30); (· rfl); (· simp only [sbe]; rfl)) | ((with_reducible apply u_or); (· rfl)) | (with_reducible exact u_ret rfl rfl) | ((with_reducible intro hz); (try simp only [sbs] at hz)))
  refine u_wcall rfl rfl k49 hfit (by simp only [sbe]; rfl) ?_
  repeat' (first | ((with_reducible apply nrm); (· simp only [sbe]; rfl)) | ((with_reducible apply u_iteF); (· rfl); (· exact rfl)) | ((with_reducible apply u_chk); (· rfl)) | ((with_reducible apply u_rep); (· rfl); (· exact hrp); (· simp only [sbe]; rfl)) | ((with_reducible apply u_lenL); (· rfl); (· exact lenL_map); (· simp only [sbe]; rfl)) | ((with_reducible apply u_ev); (· rfl); (· simp only [sbe]; rfl)) | ((with_reducible apply u_call); (· rfl); (· rfl); (· exact c27 (show s.l.length ≤ 1000000 by omega)); (· rfl); (· simp only [sbe]; rfl)) | ((with_reducible apply u_wcall); (· rfl); (· rfl); (· exact k32a); (· rfl); (· simp only [sbe]; rfl)) | ((with_reducible apply u_or); (· rfl)) | (with_reducible refine u_join ?_) | (with_reducible exact u_ret rfl rfl) | ((with_reducible intro hz); (try simp only [sbs] at hz)))
  refine u_list G (fun (st : List Akt × Nat × List Int) i => [Rec st.1, In st.2.1, I i, Is st.2.2]) (Lp c s.l car m) ([], 0, List.replicate (pro s.l).length 0) rfl (fun _ _ => rfl) ⟨⟨[], by rw [← hG]; rfl, rfl, rfl, by simp, fun k _ _ h => by cases h⟩⟩ (fun i x st hx hlt hG2 R hR => ?_) (fun st hG2 R => ?_)
  ·obtain ⟨on, cn, cs⟩ := st
   obtain ⟨⟨pre, p1, p2, p3, p4, p5⟩⟩ := hG2
   simp only at p2 p3 p4 p5
   obtain ⟨hxi, hxm, hpre⟩ := cut_range p1
   have hm1 : (s.l.length : Int) ≤ 2000 := by omega
   have hpn : pre.length < G.length := by rw [hG, p1, List.length_append, List.length_cons]; omega
   have hol : on.length = pre.length := by rw [p2, List.length_map]
   have hcn : cn ≤ pre.length := by rw [p3]; exact List.length_filter_le _ _
   obtain ⟨b, rfl, hb⟩ := hg.get (i := i) (by rw [List.length_map]; exact hlt)
   have hgx : (G.map fun i : Nat => (i : Int))[i]? = some ((x : Nat) : Int) := by rw [List.getElem?_map, hx]; rfl
   have hlg : (G.map fun i : Nat => (i : Int)).length = G.length := List.length_map _
   have hil : i < (G.map fun i : Nat => (i : Int)).length := by rw [hlg]; exact hlt
   have hli : decide ((i : Int) < ((G.map fun i : Nat => (i : Int)).length : Int)) = true := by simp; omega
   have hn := nth_get hxi
   obtain ⟨y, hy, hyx⟩ : ∃ y : Int, (0 < i → (G.map fun i : Nat => (i : Int))[i - 1]? = some y) ∧ (i = 0 ∨ y < x) := by
    rcases Nat.eq_zero_or_pos i with h0 | h0
    ·exact ⟨0, fun h => by omega, .inl h0⟩
    ·obtain ⟨y, hy⟩ : ∃ y, G[i - 1]? = some y := ⟨_, List.getElem?_eq_getElem (by omega)⟩
     refine ⟨y, fun _ => by rw [List.getElem?_map, hy]; rfl, .inr ?_⟩
     rw [hG] at hy hx
     have := gR_sorted hy (by rw [show i - 1 + 1 = i by omega]; exact hx)
     omega
   have e4 := fun h0 : 0 < i => eaddr_sl (sz := 1) (b := b) (show i - 1 < (G.map fun i : Nat => (i : Int)).length by omega)
   have e5 := fun h0 : 0 < i => ld_el0 hb (fun _ => rfl) (hy h0) rfl
   have hi2 : i < 2000 := by omega
   have ha1 := fun w : Int => app1_lst (xs := on) (enc := Akt.d) (a := { nth s.l x with cse := w }) (sz := 12) (bytes := 112) (by omega) (by unfold maxLen; omega) (fun _ => rfl)
   have e1 := eaddr_sl (sz := 1) (b := b) hil
   have e2 := ld_el0 hb (fun _ => rfl) hgx rfl
   have e3 := eaddr_nth hxi
   have next : ∀ (y : Akt) (cn' : Nat) (cs' : List Int), y = ren c s.l car m (nth s.l x) → cn' = cn + (if (nth s.l x).kind = 2 then 1 else 0) → cs'.length = (pro s.l).length → (∀ k, k < (pro s.l).length → fk c s.l car m k = true → pk s.l k ∈ pre ++ [x] → cs'[k]? = some ((nu c s.l car m k : Nat) : Int)) → Lp c s.l car m (G.drop (i + 1)) (on ++ [y], cn', cs') := fun y cn' cs' q1 q2 q3 q4 => ⟨⟨pre ++ [x], by rw [p1]; simp, by rw [q1]; simp [p2], by rw [q2, p3, List.filter_append, List.length_append]; congr 1; by_cases h : (nth s.l x).kind = 2 <;> simp [h], q3, q4⟩⟩
   have hkd := actOk_kind (hI.ok x hxi)
   have hp2 : ∀ k, k < (pro s.l).length → (nth s.l (pk s.l k)).kind = 2 := fun k hk => by rw [pk_get hk]; exact pro_kind (List.getElem_mem _)
   by_cases k1 : (nth s.l x).kind = 1
   ·repeat' (first | ((with_reducible apply nrm); (· simp only [sbe]; rfl)) | ((with_reducible apply u_iteT); (· rfl); (· exact hli)) | ((with_reducible apply u_chk); (· rfl)) | ((with_reducible apply u_ld); (· rfl); (· rfl); (· first | exact e2 | exact e5 (by omega)); (· simp only [sbe]; rfl)) | ((with_reducible apply u_eaddr); (· rfl); (· rfl); (· first | exact e1 | exact e3 | exact e4 (by omega)); (· simp only [sbe]; rfl)) | ((with_reducible apply u_lenL); (· rfl); (· exact hg.len); (· simp only [sbe]; rfl)) | ((with_reducible apply u_app); (· rfl); (· rfl); (· exact ha1 _); (· simp only [sbe]; rfl)) | ((with_reducible apply u_lenL); (· rfl); (· exact lenL_map); (· simp only [sbe]; rfl)) | ((with_reducible apply u_inc); (· rfl); (· omega); (· simp only [sbe]; rfl)) | ((with_reducible apply u_pred); (· rfl); (· omega); (· simp only [sbe]; rfl)) | ((with_reducible apply u_ev); (· rfl); (· simp only [sbe]; rfl)) | ((with_reducible apply u_or); (· rfl)) | ((with_reducible apply u_and); (· rfl)) | (with_reducible refine u_join ?_) | ((with_reducible apply u_jump); (· rfl); (· rfl)) | (with_reducible refine at_jump ?_) | (with_reducible refine kj rfl ?_) | ((with_reducible apply u_ite); (· rfl); all_goals (intro hz; (try simp only [sbs] at hz); first | (exact absurd hz (by decide)) | (exfalso; omega) | skip)) | (with_reducible exact u_ret rfl rfl) | ((with_reducible intro hz); (try simp only [sbs] at hz)))
    refine hR (_, cn, cs) (next _ _ _ (ren_low (.inl k1)).symm (by rw [if_neg (by omega)]; rfl) p4 fun k hk hf hmem => p5 k hk hf ?_)
    rcases List.mem_append.1 hmem with h | h
    ·exact h
    ·have h : pk s.l k = x := by simpa using h
     have := hp2 k hk
     rw [h] at this
     omega
   ·by_cases k2 : (nth s.l x).kind = 2
    ·obtain ⟨k, hk, hf, ek⟩ := met_pro hxm k2
     have hcnt : cn = nu c s.l car m k := by rw [p3]; exact cut_count hk ek p1
     have hkc : k < cs.length := by omega
     repeat' (first | ((with_reducible apply nrm); (· simp only [sbe]; rfl)) | ((with_reducible apply u_iteT); (· rfl); (· exact hli)) | ((with_reducible apply u_chk); (· rfl)) | ((with_reducible apply u_ld); (· rfl); (· rfl); (· first | exact e2 | exact e5 (by omega)); (· simp only [sbe]; rfl)) | ((with_reducible apply u_eaddr); (· rfl); (· rfl); (· first | exact e1 | exact e3 | exact e4 (by omega)); (· simp only [sbe]; rfl)) | ((with_reducible apply u_lenL); (· rfl); (· exact hg.len); (· simp only [sbe]; rfl)) | ((with_reducible apply u_lenL); (· rfl); (· exact lenL_map); (· simp only [sbe]; rfl)) | ((with_reducible apply u_pred); (· rfl); (· omega); (· simp only [sbe]; rfl)) | ((with_reducible apply u_ev); (· rfl); (· simp only [sbe]; rfl)) | ((with_reducible apply u_or); (· rfl)) | ((with_reducible apply u_and); (· rfl)) | (with_reducible refine u_join ?_) | ((with_reducible apply u_ite); (· rfl); all_goals (intro hz; (try simp only [sbs] at hz); first | (exact absurd hz (by decide)) | (exfalso; omega) | skip)) | (with_reducible exact u_ret rfl rfl) | ((with_reducible intro hz); (try simp only [sbs] at hz)))
     refine u_range (fun q => [I q, Is (if q ≤ k then cs else cs.set k cn)]) (fun _ => True) (pro s.l).length rfl (fun _ => rfl) trivial (fun q hq _ R2 hR2 => ?_) (fun _ R2 => ?_)
     ·have hr := hR2 trivial
      have hq2 : q < (prot s.l s.l.length).length := hq
      have hql : decide ((q : Int) < ((prot s.l s.l.length).length : Int)) = true := by simp; omega
      have eq1 : (prot s.l s.l.length)[q] = pk s.l q := (pk_get hq).symm
      rcases Nat.lt_trichotomy q k with h | h | h
      ·have hne : (((prot s.l s.l.length)[q] : Int) == ((x : Nat) : Int)) = false := by
        rw [eq1, ek]
        have : pk s.l q ≠ pk s.l k := fun e => by have := pk_inj hq hk e; omega
        simp; omega
       rw [if_pos (by omega)] at hr ⊢
       repeat' (first | ((with_reducible apply nrm); (· simp only [sbe]; rfl)) | ((with_reducible apply u_iteT); (· rfl); (· exact hql)) | ((with_reducible apply u_iteF); (· rfl); (· exact hne)) | ((with_reducible apply u_ld); (· rfl); (· rfl); (· exact e2); (· simp only [sbe]; rfl)) | ((with_reducible apply u_eaddr); (· rfl); (· rfl); (· first | exact eaddr_get hq2 rfl | exact e1); (· simp only [sbe]; rfl)) | ((with_reducible apply u_lenL); (· rfl); (· exact lenL_map); (· simp only [sbe]; rfl)) | ((with_reducible apply u_inc); (· rfl); (· omega); (· simp only [sbe]; rfl)) | ((with_reducible apply u_ev); (· rfl); (· simp only [sbe]; rfl)) | (with_reducible refine u_join ?_) | ((with_reducible apply u_jump); (· rfl); (· rfl)) | (with_reducible refine at_jump ?_) | (with_reducible refine kj rfl ?_))
       exact hr
      ·subst h
       have hne : ((((prot s.l s.l.length)[q]'hq2 : Nat) : Int) == ((x : Nat) : Int)) = true := by rw [eq1, ek]; simp
       rw [if_neg (by omega)] at hr
       rw [if_pos (by omega)]
       have hv : cs[q]? = some cs[q] := List.getElem?_eq_getElem hkc
       repeat' (first | ((with_reducible apply nrm); (· simp only [sbe]; rfl)) | ((with_reducible apply u_iteT); (· rfl); (· first | exact hql | exact hne)) | ((with_reducible apply u_ld); (· rfl); (· rfl); (· exact e2); (· simp only [sbe]; rfl)) | ((with_reducible apply u_eaddr); (· rfl); (· rfl); (· first | exact eaddr_get hq2 rfl | exact e1); (· simp only [sbe]; rfl)) | ((with_reducible apply u_idx); (· rfl); (· rfl); (· exact idxR hv); (· simp only [sbe]; rfl)) | ((with_reducible apply u_set); (· rfl); (· rfl); (· rfl); (· exact setR hkc _); (· simp only [sbe]; rfl)) | ((with_reducible apply u_lenL); (· rfl); (· exact lenL_map); (· simp only [sbe]; rfl)) | ((with_reducible apply u_inc); (· rfl); (· omega); (· simp only [sbe]; rfl)) | ((with_reducible apply u_ev); (· rfl); (· simp only [sbe]; rfl)) | (with_reducible refine u_join ?_) | ((with_reducible apply u_jump); (· rfl); (· rfl)) | (with_reducible refine at_jump ?_) | (with_reducible refine kj rfl ?_))
       exact hr
      ·have hne : (((prot s.l s.l.length)[q] : Int) == ((x : Nat) : Int)) = false := by
        rw [eq1, ek]
        have : pk s.l q ≠ pk s.l k := fun e => by have := pk_inj hq hk e; omega
        simp; omega
       rw [if_neg (by omega)] at hr ⊢
       repeat' (first | ((with_reducible apply nrm); (· simp only [sbe]; rfl)) | ((with_reducible apply u_iteT); (· rfl); (· exact hql)) | ((with_reducible apply u_iteF); (· rfl); (· exact hne)) | ((with_reducible apply u_ld); (· rfl); (· rfl); (· exact e2); (· simp only [sbe]; rfl)) | ((with_reducible apply u_eaddr); (· rfl); (· rfl); (· first | exact eaddr_get hq2 rfl | exact e1); (· simp only [sbe]; rfl)) | ((with_reducible apply u_lenL); (· rfl); (· exact lenL_map); (· simp only [sbe]; rfl)) | ((with_reducible apply u_inc); (· rfl); (· omega); (· simp only [sbe]; rfl)) | ((with_reducible apply u_ev); (· rfl); (· simp only [sbe]; rfl)) | (with_reducible refine u_join ?_) | ((with_reducible apply u_jump); (· rfl); (· rfl)) | (with_reducible refine at_jump ?_) | (with_reducible refine kj rfl ?_))
       exact hr
     ·have hql : decide (((pro s.l).length : Int) < ((prot s.l s.l.length).length : Int)) = false := by unfold pro; simp
      rw [if_neg (by omega)]
      repeat' (first | ((with_reducible apply nrm); (· simp only [sbe]; rfl)) | ((with_reducible apply u_iteF); (· rfl); (· exact hql)) | ((with_reducible apply u_app); (· rfl); (· rfl); (· exact ha1 _); (· simp only [sbe]; rfl)) | ((with_reducible apply u_lenL); (· rfl); (· exact lenL_map); (· simp only [sbe]; rfl)) | ((with_reducible apply u_inc); (· rfl); (· omega); (· simp only [sbe]; rfl)) | ((with_reducible apply u_ev); (· rfl); (· simp only [sbe]; rfl)) | ((with_reducible apply u_jump); (· rfl); (· rfl)) | (with_reducible refine at_jump ?_) | (with_reducible refine over_jump (by decide) ?_) | (with_reducible refine kj rfl ?_))
      refine hR (_, cn + 1, cs.set k cn) (next _ _ _ (ren_low (.inr k2)).symm (by rw [if_pos k2]) (by rw [List.length_set]; exact p4) fun k' hk' hf' hmem => ?_)
      by_cases hkk : k' = k
      ·subst hkk
       rw [List.getElem?_set_self hkc, hcnt]
      ·rw [List.getElem?_set_ne (fun h => hkk h.symm)]
       refine p5 k' hk' hf' ?_
       rcases List.mem_append.1 hmem with h | h
       ·exact h
       ·have h : pk s.l k' = x := by simpa using h
        exact absurd (pk_inj hk' hk (by omega)) hkk
    ·obtain ⟨k, hk, hf, ek⟩ := met_own hI hxi hxm (by omega)
     have haf : pk s.l k < x := by
      have hu := hI.uniq x hxi (by omega)
      have := hI.after k (pk s.l k) (by rw [pk_get hk]; exact List.getElem?_eq_getElem hk) (nth s.l x).kind (by omega)
      rw [ek] at hu
      omega
     have hv := p5 k hk hf (cut_has p1 (met_case hk hf) haf)
     have hv2 : D.idx (Is cs) (I (nth s.l x).cse) = some (I ((nu c s.l car m k : Nat) : Int)) := by rw [ek]; exact idxR hv
     repeat' (first | ((with_reducible apply nrm); (· simp only [sbe]; rfl)) | ((with_reducible apply u_iteT); (· rfl); (· exact hli)) | ((with_reducible apply u_chk); (· rfl)) | ((with_reducible apply u_ld); (· rfl); (· rfl); (· first | exact e2 | exact e5 (by omega)); (· simp only [sbe]; rfl)) | ((with_reducible apply u_eaddr); (· rfl); (· rfl); (· first | exact e1 | exact e3 | exact e4 (by omega)); (· simp only [sbe]; rfl)) | ((with_reducible apply u_lenL); (· rfl); (· exact hg.len); (· simp only [sbe]; rfl)) | ((with_reducible apply u_idx); (· rfl); (· rfl); (· exact hv2); (· simp only [sbe]; rfl)) | ((with_reducible apply u_app); (· rfl); (· rfl); (· exact ha1 _); (· simp only [sbe]; rfl)) | ((with_reducible apply u_lenL); (· rfl); (· exact lenL_map); (· simp only [sbe]; rfl)) | ((with_reducible apply u_inc); (· rfl); (· omega); (· simp only [sbe]; rfl)) | ((with_reducible apply u_pred); (· rfl); (· omega); (· simp only [sbe]; rfl)) | ((with_reducible apply u_ev); (· exact cidxV hv2 rfl rfl); (· simp only [sbe]; rfl)) | ((with_reducible apply u_ev); (· rfl); (· simp only [sbe]; rfl)) | ((with_reducible apply u_or); (· rfl)) | ((with_reducible apply u_and); (· rfl)) | (with_reducible refine u_join ?_) | ((with_reducible apply u_jump); (· rfl); (· rfl)) | (with_reducible refine at_jump ?_) | (with_reducible refine kj rfl ?_) | ((with_reducible apply u_ite); (· rfl); all_goals (intro hz; (try simp only [sbs] at hz); first | (exact absurd hz (by decide)) | (exfalso; omega) | skip)) | (with_reducible exact u_ret rfl rfl) | ((with_reducible intro hz); (try simp only [sbs] at hz)))
     refine hR (_, cn, cs) (next _ _ _ ?_ (by rw [if_neg k2]; rfl) p4 fun k' hk' hf' hmem => p5 k' hk' hf' ?_)
     ·unfold ren
      rw [if_neg (by omega), ek, Int.toNat_natCast]
     ·rcases List.mem_append.1 hmem with h | h
      ·exact h
      ·have h : pk s.l k' = x := by simpa using h
       have := hp2 k' hk'
       rw [h] at this
       omega
  ·obtain ⟨on, cn, cs⟩ := st
   obtain ⟨⟨pre, p1, p2, p3, p4, p5⟩⟩ := hG2
   simp only at p2
   have e : on = sub c s.l car m s.l.length := by
    rw [p2, sub_map]
    rw [List.append_nil] at p1
    rw [← p1]
    rfl
   subst e
   have hlg : (G.map fun i : Nat => (i : Int)).length = G.length := List.length_map _
   have hli : decide ((G.length : Int) < ((G.map fun i : Nat => (i : Int)).length : Int)) = false := by simp
   repeat' (first | ((with_reducible apply nrm); (· simp only [sbe]; rfl)) | ((with_reducible apply u_iteF); (· rfl); (· first | exact hli | exact rfl)) | ((with_reducible apply u_chk); (· rfl)) | ((with_reducible apply u_lenL); (· rfl); (· exact hg.len); (· simp only [sbe]; rfl)) | ((with_reducible apply u_ev); (· rfl); (· simp only [sbe]; rfl)) | ((with_reducible apply u_call); (· rfl); (· rfl); (· exact kk _); (· rfl); (· simp only [sbe]; rfl)) | ((with_reducible apply u_wcall); (· rfl); (· rfl); (· first | exact k42 | exact k32b); (· rfl); (· simp only [sbe]; rfl)) | ((with_reducible apply u_or); (· rfl)) | ((with_reducible apply u_and); (· rfl)) | ((with_reducible apply u_jump); (· rfl); (· rfl)) | (with_reducible refine at_jump ?_) | (with_reducible refine over_jump (by decide) ?_) | (with_reducible refine kj rfl ?_) | (with_reducible exact u_ret rfl rfl) | ((with_reducible apply u_ret); (· rfl); first | exact rfl | (refine retB ?_) | (refine retI ?_) | (refine retD ?_)) | ((with_reducible intro hz); (try simp only [sbs] at hz)))
   have fin : (decide (((G.map fun i : Nat => (i : Int)).length : Int) > 0) || penR c s.l car m == 0) = true := by
    rcases Nat.eq_zero_or_pos G.length with h | h
    ·rw [hz (List.eq_nil_of_length_eq_zero h)]
     simp
    ·rw [decide_eq_true (show ((G.map fun i : Nat => (i : Int)).length : Int) > 0 by rw [hlg]; omega)]
     rfl
   rw [fin]
   simp

end Go.Am.Ct
