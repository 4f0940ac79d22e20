/-
  TopWitness holds.
-/
import Derived.Test.YtjnipnanfjglpaaGreatDoorTie
import Derived.Test.YtjnipnanfjglpaaGreatDoorCards
import Derived.ProofKit
import Derived.OpenShut
import Derived.LaidMore
import Derived.Lay
import Derived.SevenTiedAt
import Derived.Stop.Joined
import Derived.Test.YtjnipnanfjglpaaGreatDoorToGi
import Derived.Test.YtjnipnanfjglpaaGreatDoorToGit
import Derived.Test.YtjnipnanfjglpaaGreatDoorAmLaidtoAmLaid3
set_option linter.unusedSimpArgs false
set_option linter.unusedVariables false
namespace Go.Proofs.YtjnipnanfjglpaaGreatDoor

open Go.Am

theorem own : ownKnob Tryz.prog.godebug = none := by kernel_rfl

def aaM : List Int := [0, 1, 56, 2, 57, 49, 28, 3, 61, 58, 42, 50, 38, 29, 17, 4, 62, 47, 59, 36, 45, 43, 51, 22, 53, 39, 33, 30, 24, 18, 12, 5, 63, 55, 48, 27, 60, 41, 37, 16, 46, 35, 44, 21, 52, 32, 23, 11, 54, 26, 40, 15, 34, 20, 31, 10, 25, 14, 19, 9, 13, 8, 7, 6]

theorem ajI : To.b0 = [.qF 5 395 (aaM.map fun z => Value.int .u8 z)] := rfl

theorem afk {W : World} (h : laidMetH Tryz.prog Rows.topWitnessRow.laid W) : Lib.TabIs Tryz.prog W "math/bits.deBruijn64tab" .u8 aaM := by
  rw [MakeChecks.laidMetH_plain _ _ _ (by kernel_rfl)] at h
  obtain ⟨ps, ⟨_, _, _, _, _, _, _, _, _, _, ⟨g', t', cs, fuel, p, q, Yi, zf, abN, hd, _, _⟩, _⟩, _⟩ := h
  obtain rfl := Option.some.inj ((show Tryz.prog.globalNamed "math/bits.deBruijn64tab" = some 5 by kernel_rfl).symm.trans Yi)
  obtain rfl := Option.some.inj ((show (Tryz.prog.globals[5]?).map (·.type) = some 395 by kernel_rfl).symm.trans zf)
  unfold Lib.TabIs
  rw [abN, ← Lib.cells_of_tab (zs := aaM) (n := 64) (e := 5) (by kernel_rfl) (by kernel_rfl) (by kernel_rfl) (by kernel_rfl) hd]

open Sc

theorem args {dd : List D} (h : tQ [.int .i64, .int .i64, .sl (.int .i64), .int .i64] dd) : ∃ (A G T : Int) (xs : List Int), dd = [I A, I G, Is xs, I T] ∧ HS xs := by
  obtain ⟨x1, _, rfl, hx1, x2, _, rfl, hx2, x3, _, rfl, hx3, x4, _, rfl, hx4, rfl⟩ := h
  obtain ⟨A, e1, _⟩ := S_ (hx1.2 rfl)
  obtain ⟨G, e2, _⟩ := S_ (hx2.2 rfl)
  obtain ⟨xs, e3, hk⟩ := GD (hx3.2 rfl)
  obtain ⟨T, e4, _⟩ := S_ (hx4.2 rfl)
  cases e1; cases e2; cases e3; cases e4
  exact ⟨A, G, T, xs, rfl, hk⟩

theorem Xy (n : Int) : Rr (I n) := .v fun _ e => by cases e

theorem amz (l : List Int) : Rr (Is l) := .bk fun e he c hc => by
  obtain ⟨a, _, rfl⟩ := List.mem_map.1 he
  simp only [D.cells, List.mem_cons, List.not_mem_nil, or_false] at hc
  subst hc
  exact Xy _

set_option maxRecDepth 100000 in
theorem lifted (os : Os) (started : os.Started) (H : Type) (enc : TypeId × Value → H) :
    ReturnsInHanded {} Tryz.checked os 3 .any (fun w args => (Rows.topWitnessSpec.pre enc Tryz.prog Tryz.f3 Rows.topWitnessRow.domain false w args ∧ laidMetH Tryz.prog Rows.topWitnessRow.laid w) ∧ sizedMet enc Tryz.prog Tryz.f3 (OpenSpec.ofChange Rows.topWitnessSpec) false w args)
      (Rows.topWitnessSpec.post enc Tryz.prog Tryz.f3 false true false false) := by
  refine B3 (C := Tryz.checked) (X := fun w _ => laidMetH Tryz.prog Rows.topWitnessRow.laid w) (fun _ _ _ hh h => h.of_heap hh) own started (by kernel_rfl) Tryz.func3
    (ChangeSpec.witness_shaped (enc := enc) (C := Tryz.checked) (os := os) (X := fun w _ => laidMetH Tryz.prog Rows.topWitnessRow.laid w) false (World.laidAll Tryz.prog os Rows.topWitnessRow.laid) #[.int .i64 0, .int .i64 0, .slice none 0 0, .int .i64 0] 8 (World.laidAll_os _ _ _)
      (World.shaped_of_ZipB (by kernel_rfl) (by kernel_rfl)) (by kernel_rfl) (by kernel_rfl) (by kernel_rfl)
      (by rw [MakeChecks.laidMetH_plain _ _ _ (by kernel_rfl)]; exact laidMet_laidAll _ (by kernel_rfl) (by kernel_rfl))) ?_
  intro W base ajL ds gs before hsh fB hW hL
  have hblk := Pz (P := Tryz.prog) (g := 5) (t := 395) (zero := Array.replicate 64 (.int .u8 0)) (by kernel_rfl) (of_decide_eq_true (by kernel_rfl)) (by kernel_rfl) hsh (afk hL)
  exact Ew (fn := Tryz.f3) (s := Rows.topWitnessSpec) (n := 8) (Lb := [.int .i64, .int .i64, .sl (.int .i64), .int .i64]) hblk (by kernel_rfl) (fun v hv => by
      obtain ⟨z, _, rfl⟩ := List.mem_map.1 hv
      exact ⟨z, rfl⟩) (by kernel_rfl) (by kernel_rfl) rfl rfl (by kernel_rfl) (by kernel_rfl)
    (fun ds h => by
      match ds, h with
      | [_, _, _, _], _ => rfl)
    (fun dd h x hx => by
      obtain ⟨A, G, T, xs, rfl, _⟩ := args h
      simp only [List.mem_cons, List.not_mem_nil, or_false] at hx
      rcases hx with rfl | rfl | rfl | rfl
      · exact Xy _
      · exact Xy _
      · exact amz _
      · exact Xy _)
    (fun dd h => by
      obtain ⟨A, G, T, xs, rfl, ho⟩ := args h
      have := To.cW (A := A) (G := G) (T := T) ho.2 fun x hx => (ho.1 x hx).2
      rw [ajI] at this
      exact this) base ajL ds gs before fB hW

theorem holds : Rows.TopWitnessSaid :=
  OpenClaim.holds_of_wide 3 Tryz.f3 rfl rfl rfl rfl rfl rfl rfl ⟨rfl, rfl, rfl, rfl, rfl⟩ rfl rfl rfl rfl rfl Xz Tryz.func3 fits
    abp (by unfold Func.isWrapper; first | (rw [if_pos (by decide +kernel)]; kernel_rfl) | (rw [if_neg (by decide +kernel)]; exact ⟨rfl, rfl⟩))
    (fun os started H enc _ => lifted os started H enc)

theorem proved : Rows.TopWitnessCardSaid :=
  Claim7.holds_tied_plain_at .later [] [.data, .data, .data, .sentinel, .sentinel] true (true, "2e83d532b62020e998a10835b6c708691b7bd98ead78592fddf06b4650bbada8") true holds (fun _ h => by cases h) (by kernel_rfl) (fun _ h => by cases h) topWitness_row_tie rfl ⟨rfl, rfl⟩ (by kernel_rfl) rfl
    (fun f fn hf vH => by
      obtain rfl : f = 3 := Option.some.inj ((show Tryz.prog.funcNamed "hairpin/hairpintop.TopWitness" = some 3 by kernel_rfl).symm.trans hf) |>.symm
      obtain rfl : fn = Tryz.f3 := (Option.some.inj (Tryz.func3.symm.trans vH)).symm
      exact ⟨by kernel_rfl, fun j t ht => by
        rw [Tryz.params3] at ht
        have hm : t ∈ [3, 3, 22, 3] := by simpa using Array.mem_of_getElem? ht
        have ji : ([3, 3, 22, 3].all fun u => !Tryz.prog.wantsStandIn u) = true := by kernel_rfl
        exact (show Tryz.prog.wantsStandIn t = false by simpa using List.all_eq_true.1 ji t hm)⟩)
    (by kernel_rfl)

end Go.Proofs.YtjnipnanfjglpaaGreatDoor
