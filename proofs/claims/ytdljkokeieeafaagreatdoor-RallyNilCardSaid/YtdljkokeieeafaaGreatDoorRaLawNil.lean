/-
  RallyNil holds.
-/
import Derived.Test.YtdljkokeieeafaaGreatDoorTie
import Derived.Test.YtdljkokeieeafaaGreatDoorCards
import Derived.ProofKit
import Derived.OpenShut
import Derived.LaidMore
import Derived.Lay
import Derived.SevenTiedAt
import Derived.Stop.Joined
import Derived.Test.YtdljkokeieeafaaGreatDoorRaKntoRaNil
import Derived.Test.YtdljkokeieeafaaGreatDoorRaFit
import Derived.Test.YtdljkokeieeafaaGreatDoorAmLaid
set_option linter.unusedSimpArgs false
set_option linter.unusedVariables false
namespace Go.Proofs.YtdljkokeieeafaaGreatDoor
open Go.Am

theorem own : ownKnob Tryz.prog.godebug = none := by kernel_rfl

def zs64 : List Int := [0, 1, 56, 2, 57, 49, 28, 3, 61, 58, 42, 50, 38, 29, 17, 4, 62, 47, 59, 36, 45, 43, 51, 22, 53, 39, 33, 30, 24, 18, 12, 5, 63, 55, 48, 27, 60, 41, 37, 16, 46, 35, 44, 21, 52, 32, 23, 11, 54, 26, 40, 15, 34, 20, 31, 10, 25, 14, 19, 9, 13, 8, 7, 6]

theorem b0_zs : Ra.b0 = [.glb 7 405 (zs64.map fun z => Value.int .u8 z)] := rfl

theorem tab64 {W : World} (h : laidMetH Tryz.prog Rows.rallyNilRow.laid W) : Lib.TabIs Tryz.prog W "math/bits.deBruijn64tab" .u8 zs64 := by
  rw [MakeChecks.laidMetH_plain _ _ _ (by kernel_rfl)] at h
  obtain ⟨ps, ⟨_, _, _, _, _, _, _, _, _, _, ⟨g', t', cs, fuel, p, q, hg', ht', hvar, hd, _, _⟩, _⟩, _⟩ := h
  obtain rfl := Option.some.inj ((show Tryz.prog.globalNamed "math/bits.deBruijn64tab" = some 7 by kernel_rfl).symm.trans hg')
  obtain rfl := Option.some.inj ((show (Tryz.prog.globals[7]?).map (·.type) = some 405 by kernel_rfl).symm.trans ht')
  unfold Lib.TabIs
  rw [hvar, ← Lib.cells_of_tab (zs := zs64) (n := 64) (e := 5) (by kernel_rfl) (by kernel_rfl) (by kernel_rfl) (by kernel_rfl) hd]

theorem args {dd : List D} (h : ArgsSh [.str, .int .i64, .int .i64] dd) : ∃ (s : ByteArray) (n m : Int), dd = [.v (.string s), .v (.int .i64 n), .v (.int .i64 m)] := by
  obtain ⟨x, _, rfl, hx, y, _, rfl, hy, z, _, rfl, hz, rfl⟩ := h
  obtain ⟨s, hs, _⟩ : ∃ s, [x] = [.v (.string s)] ∧ s.size ≤ maxLen := by simpa only [OfSh] using hx.2 rfl
  obtain ⟨n, hn, _⟩ : ∃ n : Int, [y] = [.v (.int .i64 n)] ∧ IntKind.i64.min ≤ n ∧ n ≤ IntKind.i64.max := by simpa only [OfSh] using hy.2 rfl
  obtain ⟨m, hm, _⟩ : ∃ n : Int, [z] = [.v (.int .i64 n)] ∧ IntKind.i64.min ≤ n ∧ n ≤ IntKind.i64.max := by simpa only [OfSh] using hz.2 rfl
  cases hs
  cases hn
  cases hm
  exact ⟨s, n, m, rfl⟩

set_option maxRecDepth 100000 in
theorem lifted (os : Os) (started : os.Started) (H : Type) (enc : TypeId × Value → H) :
    ReturnsInHanded {} Tryz.checked os 4 .any (fun w args => (Rows.rallyNilSpec.pre enc Tryz.prog Tryz.f4 Rows.rallyNilRow.domain false w args ∧ laidMetH Tryz.prog Rows.rallyNilRow.laid w) ∧ sizedMet enc Tryz.prog Tryz.f4 (OpenSpec.ofChange Rows.rallyNilSpec) false w args)
      (Rows.rallyNilSpec.post enc Tryz.prog Tryz.f4 false true false false) := by
  refine returns_shaped (C := Tryz.checked) (X := fun w _ => laidMetH Tryz.prog Rows.rallyNilRow.laid w) (fun _ _ _ hh h => h.of_heap hh) own started (by kernel_rfl) Tryz.func4
    (ChangeSpec.witness_shaped (enc := enc) (C := Tryz.checked) (os := os) (X := fun w _ => laidMetH Tryz.prog Rows.rallyNilRow.laid w) false (World.laidAll Tryz.prog os Rows.rallyNilRow.laid) #[.string ⟨#[]⟩, .int .i64 0, .int .i64 0] 8 (World.laidAll_os _ _ _)
      (World.shaped_of_ZipB (by kernel_rfl) (by kernel_rfl)) (by kernel_rfl) (by kernel_rfl) (by kernel_rfl)
      (by rw [MakeChecks.laidMetH_plain _ _ _ (by kernel_rfl)]; exact laidMet_laidAll _ (by kernel_rfl) (by kernel_rfl))) ?_
  intro W base args0 ds gs before hsh hval hW hL
  have hblk := tab_block (P := Tryz.prog) (g := 7) (t := 405) (zero := Array.replicate 64 (.int .u8 0)) (by kernel_rfl) (of_decide_eq_true (by kernel_rfl)) (by kernel_rfl) hsh (tab64 hL)
  exact law_contractB (fn := Tryz.f4) (s := Rows.rallyNilSpec) (n := 8) (shs := [.str, .int .i64, .int .i64]) hblk (by kernel_rfl) (by kernel_rfl) (by kernel_rfl) rfl rfl (by kernel_rfl) (by kernel_rfl)
    (fun ds h => by
      match ds, h with
      | [_, _, _], _ => rfl)
    (fun dd h x hx => by
      obtain ⟨s, n, m, rfl⟩ := args h
      simp only [List.mem_cons, List.not_mem_nil, or_false] at hx
      rcases hx with rfl | rfl | rfl <;> exact ⟨_, rfl⟩)
    (fun dd h => by
      obtain ⟨s, n, m, rfl⟩ := args h
      exact ⟨_, by have := Ra.c4 s n m; rw [b0_zs] at this; exact this⟩) base args0 ds gs before hval hW

theorem holds : Rows.RallyNilSaid :=
  OpenClaim.holds_of_wide 4 Tryz.f4 rfl rfl rfl rfl rfl rfl rfl ⟨rfl, rfl, rfl, rfl, rfl⟩ rfl rfl rfl rfl rfl n_named Tryz.func4 fits
    n_inst (by unfold Func.isWrapper; first | (rw [if_pos (by decide +kernel)]; kernel_rfl) | (rw [if_neg (by decide +kernel)]; exact ⟨rfl, rfl⟩))
    (fun os started H enc _ => lifted os started H enc)

theorem proved : Rows.RallyNilCardSaid :=
  Claim7.holds_tied_plain_at .later [] [.data, .data, .data, .data, .sentinel, .sentinel, .pinned] true (true, "30b9684ee9cf2f4bc30fe64fa7678ae1cbb76fc56fef8b70524dc6bab4798508") true holds (fun _ h => by cases h) (by kernel_rfl) (fun _ h => by cases h) rallyNil_row_tie rfl ⟨rfl, rfl⟩ (by kernel_rfl) rfl
    (fun f fn hf hfn => by
      obtain rfl : f = 4 := Option.some.inj ((show Tryz.prog.funcNamed "hairpin/hairpinlaw10.RallyNil" = some 4 by kernel_rfl).symm.trans hf) |>.symm
      obtain rfl : fn = Tryz.f4 := (Option.some.inj (Tryz.func4.symm.trans hfn)).symm
      exact ⟨by kernel_rfl, fun j t ht => by
        rw [Tryz.params4] at ht
        have hm : t ∈ [9, 3, 3] := by simpa using Array.mem_of_getElem? ht
        have hall : ([9, 3, 3].all fun u => !Tryz.prog.wantsStandIn u) = true := by kernel_rfl
        exact (show Tryz.prog.wantsStandIn t = false by simpa using List.all_eq_true.1 hall t hm)⟩)
    (by kernel_rfl)

end Go.Proofs.YtdljkokeieeafaaGreatDoor
