/-
  RallyChecks holds.
-/
import Derived.Test.YtcofohnmkmknbaaGreatDoorTie
import Derived.Test.YtcofohnmkmknbaaGreatDoorCards
import Derived.ProofKit
import Derived.OpenShut
import Derived.LaidMore
import Derived.Lay
import Derived.SevenTiedAt
import Derived.Stop.Joined
import Derived.Test.YtcofohnmkmknbaaGreatDoorRbKntoRbE4
import Derived.Test.YtcofohnmkmknbaaGreatDoorRbFit
import Derived.Test.YtcofohnmkmknbaaGreatDoorAmLaidtoAmLaid3
set_option linter.unusedSimpArgs false
set_option linter.unusedVariables false
namespace Go.Proofs.YtcofohnmkmknbaaGreatDoor
open Go.Am

theorem own : ownKnob Tryz.prog.godebug = none := by kernel_rfl

def anB : List Int := [0, 1, 56, 2, 57, 49, 28, 3, 61, 58, 42, 50, 38, 29, 17, 4, 62, 47, 59, 36, 45, 43, 51, 22, 53, 39, 33, 30, 24, 18, 12, 5, 63, 55, 48, 27, 60, 41, 37, 16, 46, 35, 44, 21, 52, 32, 23, 11, 54, 26, 40, 15, 34, 20, 31, 10, 25, 14, 19, 9, 13, 8, 7, 6]

theorem aqJ : Rb.b0 = [.ju 7 303 (anB.map fun z => Value.int .u8 z)] := rfl

theorem apq {W : World} (h : laidMetH Tryz.prog Rows.rallyChecksRow.laid W) : Lib.TabIs Tryz.prog W "math/bits.deBruijn64tab" .u8 anB := by
  rw [MakeChecks.laidMetH_plain _ _ _ (by kernel_rfl)] at h
  obtain ⟨ps, ⟨_, _, _, _, _, _, _, _, _, _, ⟨g', t', cs, fuel, p, q, hg', ht', atl, hd, _, _⟩, _⟩, _⟩ := h
  obtain rfl := Option.some.inj ((show Tryz.prog.globalNamed "math/bits.deBruijn64tab" = some 7 by kernel_rfl).symm.trans hg')
  obtain rfl := Option.some.inj ((show (Tryz.prog.globals[7]?).map (·.type) = some 303 by kernel_rfl).symm.trans ht')
  unfold Lib.TabIs
  rw [atl, ← Lib.cells_of_tab (zs := anB) (n := 64) (e := 5) (by kernel_rfl) (by kernel_rfl) (by kernel_rfl) (by kernel_rfl) hd]

open Sc in
abbrev shS : Sh := .st [.st [.int .i64, .int .i64, .int .i64, .int .i64, .int .i64, .int .i64], .st [.int .i64, .int .i64, .sl (.int .i64)], .sl (.st [.int .i64, .int .i64]), jA, .st [.int .i64, .sl (.st [.int .i64, .int .i64, .int .i64, .int .i64]), .int .i64, .int .i64, .int .i64, .int .i64]]

open Sc in
theorem ofS {cs : List D} (h : jN shS cs) : ∃ s : Rb.Setup, .agg cs = s.d ∧ s.Ok := by
  simp only [shS, jN, qb] at h
  obtain ⟨_, _, rfl, ⟨_, _, rfl, g1, _, _, rfl, g2, _, _, rfl, g3, _, _, rfl, g4, _, _, rfl, g5, _, _, rfl, g6, rfl⟩, _, _, rfl, ⟨_, _, rfl, f1, _, _, rfl, f2, _, _, rfl, f3, rfl⟩, _, _, rfl, ⟨se, rfl, sl, sh⟩, pc, _, rfl, hp, _, _, rfl, ⟨_, _, rfl, c1, _, _, rfl, ⟨ae, rfl, al, ah⟩, _, _, rfl, c2, _, _, rfl, c3, _, _, rfl, c4, _, _, rfl, c5, rfl⟩, rfl⟩ := h
  obtain ⟨a1, rfl, _⟩ := cv g1
  obtain ⟨a2, rfl, _⟩ := cv g2
  obtain ⟨a3, rfl, _⟩ := cv g3
  obtain ⟨a4, rfl, _⟩ := cv g4
  obtain ⟨a5, rfl, _⟩ := cv g5
  obtain ⟨a6, rfl, _⟩ := cv g6
  obtain ⟨b1, rfl, _⟩ := cv f1
  obtain ⟨b2, rfl, tK⟩ := cv f2
  obtain ⟨xs, rfl, _, hxl⟩ := Rm (by simpa only [jN] using f3)
  obtain ⟨ss, rfl, _⟩ := PY (d := Rb.Src.d) (sh := .st [.int .i64, .int .i64]) (ok := fun _ => True) (fun {cs} h => by
    simp only [jN, qb] at h
    obtain ⟨_, _, rfl, h1, _, _, rfl, h2, rfl⟩ := h
    obtain ⟨n1, rfl, _⟩ := cv h1
    obtain ⟨n2, rfl, _⟩ := cv h2
    exact ⟨⟨n1, n2⟩, rfl, trivial⟩) fun x hx => by
      obtain ⟨cs, e, h⟩ := (sh x hx).1 rfl
      exact ⟨cs, e, by simp only [jN, qb]; exact h⟩
  obtain ⟨p, hp1, hp2⟩ := aav (cs := pc) (by first | exact hp | simpa only [jN] using hp)
  cases hp1
  obtain ⟨d1, rfl, _⟩ := cv c1
  obtain ⟨az, rfl, _⟩ := PY (d := Rb.Art.d) (sh := .st [.int .i64, .int .i64, .int .i64, .int .i64]) (ok := fun _ => True) (fun {cs} h => by
    simp only [jN, qb] at h
    obtain ⟨_, _, rfl, h1, _, _, rfl, h2, _, _, rfl, h3, _, _, rfl, h4, rfl⟩ := h
    obtain ⟨n1, rfl, _⟩ := cv h1
    obtain ⟨n2, rfl, _⟩ := cv h2
    obtain ⟨n3, rfl, _⟩ := cv h3
    obtain ⟨n4, rfl, _⟩ := cv h4
    exact ⟨⟨n1, n2, n3, n4⟩, rfl, trivial⟩) fun x hx => by
      obtain ⟨cs, e, h⟩ := (ah x hx).1 rfl
      exact ⟨cs, e, by simp only [jN, qb]; exact h⟩
  obtain ⟨d2, rfl, _⟩ := cv c2
  obtain ⟨d3, rfl, _⟩ := cv c3
  obtain ⟨d4, rfl, _⟩ := cv c4
  obtain ⟨d5, rfl, _⟩ := cv c5
  exact ⟨⟨⟨a1, a2, a3, a4, a5, a6⟩, ⟨b1, b2, xs⟩, ss, p, ⟨d1, az, d2, d3, d4, d5⟩⟩, rfl, ⟨tK, hxl, by simpa using sl, hp2, by simpa using al⟩⟩

theorem args {dd : List D} (h : ot [shS] dd) : ∃ s : Rb.Setup, dd = [s.d] ∧ s.Ok := by
  obtain ⟨x, _, rfl, hx, rfl⟩ := h
  obtain ⟨cs, rfl, hh⟩ := hx.1 rfl
  obtain ⟨s, e, ho⟩ := ofS hh
  exact ⟨s, by rw [e], ho⟩

theorem aAc (n : Int) : NoB (Sc.I n) := .v fun _ e => by cases e
theorem aEY (b : Bool) : NoB (Sc.B b) := .v fun _ e => by cases e
theorem aA9 {α : Type} {enc : α → D} (l : List α) (h : ∀ a c, c ∈ (enc a).cells → NoB c) : NoB (.bq (l.map enc)) := .bq fun e he c hc => by
  obtain ⟨a, _, rfl⟩ := List.mem_map.1 he
  exact h a c hc

theorem aHG (s : Rb.Setup) : NoB s.d := .agg fun c hc => by
  simp only [Rb.Setup.cs, List.mem_cons, List.not_mem_nil, or_false] at hc
  have hi : ∀ l : List Int, NoB (Sc.Is l) := fun l => aA9 l fun a c hc => by
    simp only [D.cells, List.mem_cons, List.not_mem_nil, or_false] at hc
    rw [hc]
    exact aAc a
  have h1 := aA9 (enc := Rb.Src.d) s.s fun a c hc => by
    simp only [Rb.Src.d, Rb.Src.cs, D.cells, List.mem_cons, List.not_mem_nil, or_false] at hc
    rcases hc with rfl | rfl <;> exact aAc _
  have h2 := aA9 (enc := Sc.Item.d) s.p.items fun a c hc => by
    simp only [Sc.Item.d, Sc.Item.cs, D.cells, List.mem_cons, List.not_mem_nil, or_false] at hc
    rcases hc with rfl | rfl | rfl | rfl <;> first | exact aAc _ | exact aEY _
  have h3 := aA9 (enc := Rb.Art.d) s.c.Qtk fun a c hc => by
    simp only [Rb.Art.d, D.cells, List.mem_cons, List.not_mem_nil, or_false] at hc
    rcases hc with rfl | rfl | rfl | rfl <;> exact aAc _
  rcases hc with rfl | rfl | rfl | rfl | rfl | rfl | rfl | rfl | rfl | rfl | rfl | rfl | rfl | rfl | rfl | rfl | rfl | rfl | rfl | rfl | rfl | rfl | rfl | rfl | rfl | rfl | rfl | rfl | rfl | rfl
  all_goals first | exact aAc _ | exact aEY _ | exact hi _ | exact h1 | exact h2 | exact h3

set_option maxRecDepth 100000 in
theorem lifted (os : Os) (started : os.Started) (H : Type) (enc : TypeId × Value → H) :
    ReturnsInHanded {} Tryz.checked os 3 .any (fun w args => (Rows.rallyChecksSpec.pre enc Tryz.prog Tryz.f3 Rows.rallyChecksRow.domain false w args ∧ laidMetH Tryz.prog Rows.rallyChecksRow.laid w) ∧ sizedMet enc Tryz.prog Tryz.f3 (OpenSpec.ofChange Rows.rallyChecksSpec) false w args)
      (Rows.rallyChecksSpec.post enc Tryz.prog Tryz.f3 false true false false) := by
  refine Qkz (C := Tryz.checked) (X := fun w _ => laidMetH Tryz.prog Rows.rallyChecksRow.laid w) (fun _ _ _ hh h => h.of_heap hh) own started (by kernel_rfl) Tryz.func3
    (ChangeSpec.witness_shaped (enc := enc) (C := Tryz.checked) (os := os) (X := fun w _ => laidMetH Tryz.prog Rows.rallyChecksRow.laid w) false (World.laidAll Tryz.prog os Rows.rallyChecksRow.laid) #[.agg #[.int .i64 0, .int .i64 0, .int .i64 0, .int .i64 0, .int .i64 0, .int .i64 0, .int .i64 0, .int .i64 0, .slice none 0 0, .slice none 0 0, .slice none 0 0, .int .i64 0, .int .i64 0, .int .i64 0, .int .i64 0, .int .i64 0, .slice none 0 0, .bool false, .int .i64 0, .int .i64 0, .int .i64 0, .int .i64 0, .slice none 0 0, .slice none 0 0, .int .i64 0, .slice none 0 0, .int .i64 0, .int .i64 0, .int .i64 0, .int .i64 0]] 8 (World.laidAll_os _ _ _)
      (World.shaped_of_ZipB (by kernel_rfl) (by kernel_rfl)) (by kernel_rfl) (by kernel_rfl) (by kernel_rfl)
      (by rw [MakeChecks.laidMetH_plain _ _ _ (by kernel_rfl)]; exact laidMet_laidAll _ (by kernel_rfl) (by kernel_rfl))) ?_
  intro W base aqK ds gs before hsh hval hW hL
  have Qhv := acn (P := Tryz.prog) (g := 7) (t := 303) (zero := Array.replicate 64 (.int .u8 0)) (by kernel_rfl) (of_decide_eq_true (by kernel_rfl)) (by kernel_rfl) hsh (apq hL)
  exact avO (fn := Tryz.f3) (s := Rows.rallyChecksSpec) (n := 8) (Mw := [shS]) Qhv (by kernel_rfl) (fun v hv => by
      obtain ⟨z, _, rfl⟩ := List.mem_map.1 hv
      exact ⟨z, rfl⟩) (by kernel_rfl) (by kernel_rfl) rfl rfl (by kernel_rfl) (by kernel_rfl)
    (fun ds h => by
      match ds, h with
      | [_], _ => rfl)
    (fun dd h x hx => by
      obtain ⟨s, rfl, _⟩ := args h
      simp only [List.mem_cons, List.not_mem_nil, or_false] at hx
      subst hx
      exact aHG s)
    (fun dd h => by
      obtain ⟨s, rfl, ho⟩ := args h
      have := Rb.c3 ho
      rw [aqJ] at this
      exact this) base aqK ds gs before hval hW

theorem holds : Rows.RallyChecksSaid :=
  OpenClaim.holds_of_wide 3 Tryz.f3 rfl rfl rfl rfl rfl rfl rfl ⟨rfl, rfl, rfl, rfl, rfl⟩ rfl rfl rfl rfl rfl aiS Tryz.func3 fits
    anV (by unfold Func.isWrapper; first | (rw [if_pos (by decide +kernel)]; kernel_rfl) | (rw [if_neg (by decide +kernel)]; exact ⟨rfl, rfl⟩))
    (fun os started H enc _ => lifted os started H enc)

theorem proved : Rows.RallyChecksCardSaid :=
  Claim7.holds_tied_plain_at .later [] [.data, .data, .data, .data, .sentinel, .sentinel, .pinned] true (true, "6b43156e9a6fb4ba2a01e13c0e9fcc7b4a7400f5065c1a18fc610f8f07ebcfb0") true holds (fun _ h => by cases h) (by kernel_rfl) (fun _ h => by cases h) rallyChecks_row_tie rfl ⟨rfl, rfl⟩ (by kernel_rfl) rfl
    (fun f fn hf hfn => by
      obtain rfl : f = 3 := Option.some.inj ((show Tryz.prog.funcNamed "hairpin/hairpinlaw10.RallyChecks" = some 3 by kernel_rfl).symm.trans hf) |>.symm
      obtain rfl : fn = Tryz.f3 := (Option.some.inj (Tryz.func3.symm.trans hfn)).symm
      exact ⟨by kernel_rfl, fun j t ht => by
        rw [Tryz.params3] at ht
        have hm : t ∈ [38] := by simpa using Array.mem_of_getElem? ht
        have hall : ([38].all fun u => !Tryz.prog.wantsStandIn u) = true := by kernel_rfl
        exact (show Tryz.prog.wantsStandIn t = false by simpa using List.all_eq_true.1 hall t hm)⟩)
    (by kernel_rfl)

end Go.Proofs.YtcofohnmkmknbaaGreatDoor
