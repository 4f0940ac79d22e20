/-
  TopWatched holds.
-/
import Derived.Test.YtjnipnanfjglpaaGreatDoorTie
import Derived.Test.YtjnipnanfjglpaaGreatDoorCards
import Derived.ProofKit
import Derived.OpenShut
import Derived.LaidMore
import Derived.Lay
import Derived.SevenTiedAt
import Derived.Stop.Joined
import Derived.Test.YtjnipnanfjglpaaGreatDoorToRptoToD6
import Derived.Test.YtjnipnanfjglpaaGreatDoorToFit
import Derived.Test.YtjnipnanfjglpaaGreatDoorAmLaidtoAmLaid3
set_option linter.unusedSimpArgs false
set_option linter.unusedVariables false
namespace Go.Proofs.YtjnipnanfjglpaaGreatDoor
open Go.Am

theorem own : ownKnob Tryz.prog.godebug = none := by kernel_rfl

def RV : List Int := [0, 1, 56, 2, 57, 49, 28, 3, 61, 58, 42, 50, 38, 29, 17, 4, 62, 47, 59, 36, 45, 43, 51, 22, 53, 39, 33, 30, 24, 18, 12, 5, 63, 55, 48, 27, 60, 41, 37, 16, 46, 35, 44, 21, 52, 32, 23, 11, 54, 26, 40, 15, 34, 20, 31, 10, 25, 14, 19, 9, 13, 8, 7, 6]

theorem ZU : To.b0 = [.nL 5 395 (RV.map fun z => Value.int .u8 z)] := rfl

theorem VB {W : World} (h : laidMetH Tryz.prog Rows.topWatchedRow.laid W) : Lib.TabIs Tryz.prog W "math/bits.deBruijn64tab" .u8 RV := by
  rw [MakeChecks.laidMetH_plain _ _ _ (by kernel_rfl)] at h
  obtain ⟨ps, ⟨_, _, _, _, _, _, _, _, _, _, ⟨g', t', cs, fuel, p, q, hg', ht', adC, hd, _, _⟩, _⟩, _⟩ := h
  obtain rfl := Option.some.inj ((show Tryz.prog.globalNamed "math/bits.deBruijn64tab" = some 5 by kernel_rfl).symm.trans hg')
  obtain rfl := Option.some.inj ((show (Tryz.prog.globals[5]?).map (·.type) = some 395 by kernel_rfl).symm.trans ht')
  unfold Lib.TabIs
  rw [adC, ← Lib.cells_of_tab (zs := RV) (n := 64) (e := 5) (by kernel_rfl) (by kernel_rfl) (by kernel_rfl) (by kernel_rfl) hd]

abbrev O_ : Sh := .st [.int .i64, .int .i64, .int .i64, .sl (.st [.int .i64, .int .i64])]
abbrev Sf : Sh := .st [.int .i64, .sl O_]
abbrev Se : Sh := .sl (.st [.int .i64, .int .i64, .int .i64, .int .i64])
abbrev Sd : Sh := .sl (.st [.int .i64, .int .i64, .int .i64])

open Sc

theorem acD {cs : List D} (h : eW O_ cs) : ∃ r : To.Rd, .agg cs = r.d ∧ r.cls.length ≤ maxLen := by
  simp only [O_, eW, gk] at h
  obtain ⟨_, _, rfl, h1, _, _, rfl, h2, _, _, rfl, h3, _, _, rfl, ⟨ce, rfl, cl, ch⟩, rfl⟩ := h
  obtain ⟨n1, rfl, _⟩ := cv h1
  obtain ⟨n2, rfl, _⟩ := cv h2
  obtain ⟨n3, rfl, _⟩ := cv h3
  obtain ⟨xs, rfl, _⟩ := vB (d := To.cD) (sh := .st [.int .i64, .int .i64]) (ok := fun _ => True) (fun {cs} h => by
    simp only [eW, gk] at h
    obtain ⟨_, _, rfl, h1, _, _, rfl, h2, rfl⟩ := h
    obtain ⟨n1, rfl, _⟩ := cv h1
    obtain ⟨n2, rfl, _⟩ := cv h2
    exact ⟨(n1, n2), rfl, trivial⟩) fun x hx => by
      obtain ⟨cs, e, h⟩ := (ch x hx).1 rfl
      exact ⟨cs, e, by simp only [eW, gk]; exact h⟩
  exact ⟨⟨n1, n2, n3, xs⟩, rfl, by simpa using cl⟩

theorem args {dd : List D} (h : qo [Sf, Se, Sd, .int .i64] dd) : ∃ (N s : Int) (rs : List To.Rd) (vs : List To.Vh) (zs : List To.Zn), dd = [To.Nt N rs, .a_ (vs.map To.Vh.d), .a_ (zs.map To.Zn.d), I s] ∧ To.RU rs vs zs := by
  obtain ⟨x1, _, rfl, hx1, x2, _, rfl, hx2, x3, _, rfl, hx3, x4, _, rfl, hx4, rfl⟩ := h
  obtain ⟨cs, rfl, h1⟩ := hx1.1 rfl
  have h2 := hx2.2 rfl
  have h3 := hx3.2 rfl
  have h4 := hx4.2 rfl
  simp only [Sf, eW, gk] at h1
  obtain ⟨_, _, rfl, n1, _, _, rfl, ⟨re, rfl, rl, rh⟩, rfl⟩ := h1
  obtain ⟨N, rfl, _⟩ := cv n1
  obtain ⟨rs, rfl, hro⟩ := vB (d := To.Rd.d) (sh := O_) (ok := fun r => r.cls.length ≤ maxLen) (fun {cs} h => acD h) fun x hx => by
    obtain ⟨cs, e, h⟩ := (rh x hx).1 rfl
    exact ⟨cs, e, by simp only [eW, gk]; exact h⟩
  simp only [Se, eW] at h2
  obtain ⟨ve, e2, vl, vh⟩ := h2
  cases e2
  obtain ⟨vs, rfl, _⟩ := vB (d := To.Vh.d) (sh := .st [.int .i64, .int .i64, .int .i64, .int .i64]) (ok := fun _ => True) (fun {cs} h => by
    simp only [eW, gk] at h
    obtain ⟨_, _, rfl, h1, _, _, rfl, h2, _, _, rfl, h3, _, _, rfl, h4, rfl⟩ := h
    obtain ⟨n1, rfl, _⟩ := cv h1
    obtain ⟨n2, rfl, _⟩ := cv h2
    obtain ⟨n3, rfl, _⟩ := cv h3
    obtain ⟨n4, rfl, _⟩ := cv h4
    exact ⟨⟨n1, n2, n3, n4⟩, rfl, trivial⟩) fun x hx => by
      obtain ⟨cs, e, h⟩ := (vh x hx).1 rfl
      exact ⟨cs, e, by simp only [eW, gk]; first | exact h | (simp only [gk, eW] at h; exact h)⟩
  simp only [Sd, eW] at h3
  obtain ⟨ze, e3, zl, zh⟩ := h3
  cases e3
  obtain ⟨zs, rfl, _⟩ := vB (d := To.Zn.d) (sh := .st [.int .i64, .int .i64, .int .i64]) (ok := fun _ => True) (fun {cs} h => by
    simp only [eW, gk] at h
    obtain ⟨_, _, rfl, h1, _, _, rfl, h2, _, _, rfl, h3, rfl⟩ := h
    obtain ⟨n1, rfl, _⟩ := cv h1
    obtain ⟨n2, rfl, _⟩ := cv h2
    obtain ⟨n3, rfl, _⟩ := cv h3
    exact ⟨⟨n1, n2, n3⟩, rfl, trivial⟩) fun x hx => by
      obtain ⟨cs, e, h⟩ := (zh x hx).1 rfl
      exact ⟨cs, e, by simp only [eW, gk]; first | exact h | (simp only [gk, eW] at h; exact h)⟩
  obtain ⟨s, e4, _⟩ := cv (by simpa only [eW] using h4)
  cases e4
  exact ⟨N, s, rs, vs, zs, rfl, ⟨by simpa using rl, hro, by simpa using vl, by simpa using zl⟩⟩

theorem JM (n : Int) : FJ (I n) := .v fun _ e => by cases e
theorem Pr {α : Type} {enc : α → D} (l : List α) (h : ∀ a c, c ∈ (enc a).cells → FJ c) : FJ (.a_ (l.map enc)) := .a_ fun e he c hc => by
  obtain ⟨a, _, rfl⟩ := List.mem_map.1 he
  exact h a c hc

theorem SB {N s : Int} {rs : List To.Rd} {vs : List To.Vh} {zs : List To.Zn} : ∀ x, x ∈ [To.Nt N rs, .a_ (vs.map To.Vh.d), .a_ (zs.map To.Zn.d), I s] → FJ x := by
  intro x hx
  have h0 : ∀ l : List (Int × Int), FJ (.a_ (l.map To.cD)) := fun l => Pr l fun a c hc => by
    simp only [To.cD, D.cells, List.mem_cons, List.not_mem_nil, or_false] at hc
    rcases hc with rfl | rfl <;> exact JM _
  have h1 := Pr (enc := To.Rd.d) rs fun a c hc => by
    simp only [To.Rd.d, D.cells, List.mem_cons, List.not_mem_nil, or_false] at hc
    rcases hc with rfl | rfl | rfl | rfl <;> first | exact JM _ | exact h0 _
  have h2 := Pr (enc := To.Vh.d) vs fun a c hc => by
    simp only [To.Vh.d, D.cells, List.mem_cons, List.not_mem_nil, or_false] at hc
    rcases hc with rfl | rfl | rfl | rfl <;> exact JM _
  have h3 := Pr (enc := To.Zn.d) zs fun a c hc => by
    simp only [To.Zn.d, D.cells, List.mem_cons, List.not_mem_nil, or_false] at hc
    rcases hc with rfl | rfl | rfl <;> exact JM _
  simp only [List.mem_cons, List.not_mem_nil, or_false] at hx
  rcases hx with rfl | rfl | rfl | rfl
  · exact .agg fun c hc => by
      simp only [List.mem_cons, List.not_mem_nil, or_false] at hc
      rcases hc with rfl | rfl
      · exact JM _
      · exact h1
  · exact h2
  · exact h3
  · exact JM _

set_option maxRecDepth 100000 in
theorem lifted (os : Os) (started : os.Started) (H : Type) (enc : TypeId × Value → H) :
    ReturnsInHanded {} Tryz.checked os 4 .any (fun w args => (Rows.topWatchedSpec.pre enc Tryz.prog Tryz.f4 Rows.topWatchedRow.domain false w args ∧ laidMetH Tryz.prog Rows.topWatchedRow.laid w) ∧ sizedMet enc Tryz.prog Tryz.f4 (OpenSpec.ofChange Rows.topWatchedSpec) false w args)
      (Rows.topWatchedSpec.post enc Tryz.prog Tryz.f4 false true false false) := by
  refine xN (C := Tryz.checked) (X := fun w _ => laidMetH Tryz.prog Rows.topWatchedRow.laid w) (fun _ _ _ hh h => h.of_heap hh) own started (by kernel_rfl) Tryz.func4
    (ChangeSpec.witness_shaped (enc := enc) (C := Tryz.checked) (os := os) (X := fun w _ => laidMetH Tryz.prog Rows.topWatchedRow.laid w) false (World.laidAll Tryz.prog os Rows.topWatchedRow.laid) #[.agg #[.int .i64 0, .slice none 0 0], .slice none 0 0, .slice none 0 0, .int .i64 0] 8 (World.laidAll_os _ _ _)
      (World.shaped_of_ZipB (by kernel_rfl) (by kernel_rfl)) (by kernel_rfl) (by kernel_rfl) (by kernel_rfl)
      (by rw [MakeChecks.laidMetH_plain _ _ _ (by kernel_rfl)]; exact laidMet_laidAll _ (by kernel_rfl) (by kernel_rfl))) ?_
  intro W base ZX ds gs before hsh hval hW hL
  have jj := Jq (P := Tryz.prog) (g := 5) (t := 395) (zero := Array.replicate 64 (.int .u8 0)) (by kernel_rfl) (of_decide_eq_true (by kernel_rfl)) (by kernel_rfl) hsh (VB hL)
  exact AF (fn := Tryz.f4) (s := Rows.topWatchedSpec) (n := 8) (FA := [Sf, Se, Sd, .int .i64]) jj (by kernel_rfl) (fun v hv => by
      obtain ⟨z, _, rfl⟩ := List.mem_map.1 hv
      exact ⟨z, rfl⟩) (by kernel_rfl) (by kernel_rfl) rfl rfl (by kernel_rfl) (by kernel_rfl)
    (fun ds h => by
      match ds, h with
      | [_, _, _, _], _ => rfl)
    (fun dd h x hx => by
      obtain ⟨N, s, rs, vs, zs, rfl, _⟩ := args h
      exact SB x hx)
    (fun dd h => by
      obtain ⟨N, s, rs, vs, zs, rfl, ho⟩ := args h
      have := To.c4 (N := N) (s := s) ho
      rw [ZU] at this
      exact this) base ZX ds gs before hval hW

theorem holds : Rows.TopWatchedSaid :=
  OpenClaim.holds_of_wide 4 Tryz.f4 rfl rfl rfl rfl rfl rfl rfl ⟨rfl, rfl, rfl, rfl, rfl⟩ rfl rfl rfl rfl rfl Pt Tryz.func4 fits
    SC (by unfold Func.isWrapper; first | (rw [if_pos (by decide +kernel)]; kernel_rfl) | (rw [if_neg (by decide +kernel)]; exact ⟨rfl, rfl⟩))
    (fun os started H enc _ => lifted os started H enc)

theorem proved : Rows.TopWatchedCardSaid :=
  Claim7.holds_tied_plain_at .later [] [.data, .data, .data, .sentinel, .sentinel] true (true, "2e83d532b62020e998a10835b6c708691b7bd98ead78592fddf06b4650bbada8") true holds (fun _ h => by cases h) (by kernel_rfl) (fun _ h => by cases h) topWatched_row_tie rfl ⟨rfl, rfl⟩ (by kernel_rfl) rfl
    (fun f fn hf hfn => by
      obtain rfl : f = 4 := Option.some.inj ((show Tryz.prog.funcNamed "hairpin/hairpintop.TopWatched" = some 4 by kernel_rfl).symm.trans hf) |>.symm
      obtain rfl : fn = Tryz.f4 := (Option.some.inj (Tryz.func4.symm.trans hfn)).symm
      exact ⟨by kernel_rfl, fun j t ht => by
        rw [Tryz.params4] at ht
        have hm : t ∈ [58, 59, 60, 3] := by simpa using Array.mem_of_getElem? ht
        have hall : ([58, 59, 60, 3].all fun u => !Tryz.prog.wantsStandIn u) = true := by kernel_rfl
        exact (show Tryz.prog.wantsStandIn t = false by simpa using List.all_eq_true.1 hall t hm)⟩)
    (by kernel_rfl)

end Go.Proofs.YtjnipnanfjglpaaGreatDoor
