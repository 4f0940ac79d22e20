/-
  RallyChains holds.
-/
import Derived.Test.YtdljkokeieeafaaGreatDoorTie
import Derived.Test.YtdljkokeieeafaaGreatDoorCards
import Derived.ProofKit
import Derived.OpenShut
import Derived.LaidMore
import Derived.Lay
import Derived.SevenTiedAt
import Derived.Stop.Joined
import Derived.Test.YtdljkokeieeafaaGreatDoorRaKntoRaGit
import Derived.Test.YtdljkokeieeafaaGreatDoorAmLaidtoAmLaid2
set_option linter.unusedSimpArgs false
set_option linter.unusedVariables false
namespace Go.Proofs.YtdljkokeieeafaaGreatDoor
open Go.Am

theorem own : ownKnob Tryz.prog.godebug = none := by kernel_rfl

def zs64 : List Int := [0, 1, 56, 2, 57, 49, 28, 3, 61, 58, 42, 50, 38, 29, 17, 4, 62, 47, 59, 36, 45, 43, 51, 22, 53, 39, 33, 30, 24, 18, 12, 5, 63, 55, 48, 27, 60, 41, 37, 16, 46, 35, 44, 21, 52, 32, 23, 11, 54, 26, 40, 15, 34, 20, 31, 10, 25, 14, 19, 9, 13, 8, 7, 6]

theorem b0_zs : Ra.b0 = [.glb 7 405 (zs64.map fun z => Value.int .u8 z)] := rfl

theorem tab64 {W : World} (h : laidMetH Tryz.prog Rows.rallyChainsRow.laid W) : Lib.TabIs Tryz.prog W "math/bits.deBruijn64tab" .u8 zs64 := by
  rw [MakeChecks.laidMetH_plain _ _ _ (by kernel_rfl)] at h
  obtain ⟨ps, ⟨_, _, _, _, _, _, _, _, _, _, ⟨g', t', cs, fuel, p, q, hg', ht', hvar, hd, _, _⟩, _⟩, _⟩ := h
  obtain rfl := Option.some.inj ((show Tryz.prog.globalNamed "math/bits.deBruijn64tab" = some 7 by kernel_rfl).symm.trans hg')
  obtain rfl := Option.some.inj ((show (Tryz.prog.globals[7]?).map (·.type) = some 405 by kernel_rfl).symm.trans ht')
  unfold Lib.TabIs
  rw [hvar, ← Lib.cells_of_tab (zs := zs64) (n := 64) (e := 5) (by kernel_rfl) (by kernel_rfl) (by kernel_rfl) (by kernel_rfl) hd]

abbrev shE : Sh := .st [.str, .str]

theorem ofStr {x : D} (h : OfSh .str [x]) : ∃ s : ByteArray, x = Ra.St s := by
  obtain ⟨s, hs, _⟩ : ∃ s, [x] = [.v (.string s)] ∧ s.size ≤ maxLen := by simpa only [OfSh] using h
  cases hs
  exact ⟨s, rfl⟩

theorem ofSs : ∀ {es : List D}, (∀ x, x ∈ es → OfSh .str [x]) → ∃ l : List ByteArray, es = l.map Ra.St
  | [], _ => ⟨[], rfl⟩
  | e :: es, h => by
    obtain ⟨s, rfl⟩ := ofStr (h e (by simp))
    obtain ⟨l, rfl⟩ := ofSs (es := es) fun x hx => h x (by simp [hx])
    exact ⟨s :: l, rfl⟩

theorem ofEs : ∀ {es : List D}, (∀ x, x ∈ es → ∃ cs, x = .agg cs ∧ OfSh shE cs) → ∃ l : List Ra.Ent, es = l.map Ra.Ent.d
  | [], _ => ⟨[], rfl⟩
  | e :: es, h => by
    obtain ⟨cs, rfl, hc⟩ := h e (by simp)
    obtain ⟨l, rfl⟩ := ofEs (es := es) fun x hx => h x (by simp [hx])
    simp only [OfSh, OfAll] at hc
    obtain ⟨p, q, rfl, ⟨s, rfl, _⟩, p2, q2, rfl, ⟨s2, rfl, _⟩, rfl⟩ := hc
    exact ⟨(s, s2) :: l, rfl⟩

theorem argS {x : D} (h : ArgSh (.sl .str) x) : ∃ l : List ByteArray, x = Ra.Ss l ∧ l.length ≤ maxLen := by
  have h := h.2 rfl
  simp only [OfSh] at h
  obtain ⟨es, hx, hl, hes⟩ := h
  cases hx
  obtain ⟨l, rfl⟩ := ofSs fun x hx => by
    have := (hes x hx).2 rfl
    simpa only [OfSh] using this
  exact ⟨l, rfl, by simpa using hl⟩

theorem argE {x : D} (h : ArgSh (.sl shE) x) : ∃ l : List Ra.Ent, x = Ra.Es l ∧ l.length ≤ maxLen := by
  have h := h.2 rfl
  simp only [OfSh] at h
  obtain ⟨es, hx, hl, hes⟩ := h
  cases hx
  obtain ⟨l, rfl⟩ := ofEs fun x hx => by
    obtain ⟨cs, e1, e2⟩ := (hes x hx).1 rfl
    exact ⟨cs, e1, by simpa only [OfSh] using e2⟩
  exact ⟨l, rfl, by simpa using hl⟩

theorem args {dd : List D} (h : ArgsSh [.sl .str, .sl shE, .sl shE] dd) : ∃ (l : List ByteArray) (a b : List Ra.Ent), dd = [Ra.Ss l, Ra.Es a, Ra.Es b] ∧ l.length ≤ maxLen ∧ a.length ≤ maxLen ∧ b.length ≤ maxLen := by
  obtain ⟨x, _, rfl, hx, y, _, rfl, hy, z, _, rfl, hz, rfl⟩ := h
  obtain ⟨l, rfl, h1⟩ := argS hx
  obtain ⟨a, rfl, h2⟩ := argE hy
  obtain ⟨b, rfl, h3⟩ := argE hz
  exact ⟨l, a, b, rfl, h1, h2, h3⟩

set_option maxRecDepth 100000 in
theorem lifted (os : Os) (started : os.Started) (H : Type) (enc : TypeId × Value → H) :
    ReturnsInHanded {} Tryz.checked os 3 .any (fun w args => (Rows.rallyChainsSpec.pre enc Tryz.prog Tryz.f3 Rows.rallyChainsRow.domain false w args ∧ laidMetH Tryz.prog Rows.rallyChainsRow.laid w) ∧ sizedMet enc Tryz.prog Tryz.f3 (OpenSpec.ofChange Rows.rallyChainsSpec) false w args)
      (Rows.rallyChainsSpec.post enc Tryz.prog Tryz.f3 false true false false) := by
  refine returns_shaped (C := Tryz.checked) (X := fun w _ => laidMetH Tryz.prog Rows.rallyChainsRow.laid w) (fun _ _ _ hh h => h.of_heap hh) own started (by kernel_rfl) Tryz.func3
    (ChangeSpec.witness_shaped (enc := enc) (C := Tryz.checked) (os := os) (X := fun w _ => laidMetH Tryz.prog Rows.rallyChainsRow.laid w) false (World.laidAll Tryz.prog os Rows.rallyChainsRow.laid) #[.slice none 0 0, .slice none 0 0, .slice none 0 0] 8 (World.laidAll_os _ _ _)
      (World.shaped_of_ZipB (by kernel_rfl) (by kernel_rfl)) (by kernel_rfl) (by kernel_rfl) (by kernel_rfl)
      (by rw [MakeChecks.laidMetH_plain _ _ _ (by kernel_rfl)]; exact laidMet_laidAll _ (by kernel_rfl) (by kernel_rfl))) ?_
  intro W base args0 ds gs before hsh hval hW hL
  have hblk := tab_block (P := Tryz.prog) (g := 7) (t := 405) (zero := Array.replicate 64 (.int .u8 0)) (by kernel_rfl) (of_decide_eq_true (by kernel_rfl)) (by kernel_rfl) hsh (tab64 hL)
  exact law_contractT (fn := Tryz.f3) (s := Rows.rallyChainsSpec) (n := 8) (shs := [.sl .str, .sl shE, .sl shE]) hblk (by kernel_rfl) (fun v hv => by
      obtain ⟨z, _, rfl⟩ := List.mem_map.1 hv
      exact ⟨z, rfl⟩) (by kernel_rfl) (by kernel_rfl) rfl rfl (by kernel_rfl) (by kernel_rfl)
    (fun ds h => by
      match ds, h with
      | [_, _, _], _ => rfl)
    (fun dd h x hx => by
      obtain ⟨l, a, b, rfl, _⟩ := args h
      simp only [List.mem_cons, List.not_mem_nil, or_false] at hx
      have hE : ∀ l : List Ra.Ent, TextD (Ra.Es l) := fun l => .inr ⟨_, rfl, fun e he c hc => by
        obtain ⟨y, _, rfl⟩ := List.mem_map.1 he
        simp only [Ra.Ent.d, D.cells, List.mem_cons, List.not_mem_nil, or_false] at hc
        rcases hc with rfl | rfl <;> exact ⟨_, rfl⟩⟩
      rcases hx with rfl | rfl | rfl
      · exact .inr ⟨_, rfl, fun e he c hc => by
          obtain ⟨y, _, rfl⟩ := List.mem_map.1 he
          simp only [D.cells, List.mem_cons, List.not_mem_nil, or_false] at hc
          exact ⟨y, hc⟩⟩
      · exact hE a
      · exact hE b)
    (fun dd h => by
      obtain ⟨l, a, b, rfl, h1, h2, h3⟩ := args h
      exact ⟨[], by have := Ra.c3 (bs := []) h1 h2 h3; rw [List.append_nil, b0_zs] at this; exact this⟩) base args0 ds gs before hval hW

theorem holds : Rows.RallyChainsSaid :=
  OpenClaim.holds_of_wide 3 Tryz.f3 rfl rfl rfl rfl rfl rfl rfl ⟨rfl, rfl, rfl, rfl, rfl⟩ rfl rfl rfl rfl rfl n_named Tryz.func3 fits
    n_inst (by unfold Func.isWrapper; first | (rw [if_pos (by decide +kernel)]; kernel_rfl) | (rw [if_neg (by decide +kernel)]; exact ⟨rfl, rfl⟩))
    (fun os started H enc _ => lifted os started H enc)

theorem proved : Rows.RallyChainsCardSaid :=
  Claim7.holds_tied_plain_at .later [] [.data, .data, .data, .data, .sentinel, .sentinel, .pinned] true (true, "30b9684ee9cf2f4bc30fe64fa7678ae1cbb76fc56fef8b70524dc6bab4798508") true holds (fun _ h => by cases h) (by kernel_rfl) (fun _ h => by cases h) rallyChains_row_tie rfl ⟨rfl, rfl⟩ (by kernel_rfl) rfl
    (fun f fn hf hfn => by
      obtain rfl : f = 3 := Option.some.inj ((show Tryz.prog.funcNamed "hairpin/hairpinlaw10.RallyChains" = some 3 by kernel_rfl).symm.trans hf) |>.symm
      obtain rfl : fn = Tryz.f3 := (Option.some.inj (Tryz.func3.symm.trans hfn)).symm
      exact ⟨by kernel_rfl, fun j t ht => by
        rw [Tryz.params3] at ht
        have hm : t ∈ [22, 23, 23] := by simpa using Array.mem_of_getElem? ht
        have hall : ([22, 23, 23].all fun u => !Tryz.prog.wantsStandIn u) = true := by kernel_rfl
        exact (show Tryz.prog.wantsStandIn t = false by simpa using List.all_eq_true.1 hall t hm)⟩)
    (by kernel_rfl)

end Go.Proofs.YtdljkokeieeafaaGreatDoor
