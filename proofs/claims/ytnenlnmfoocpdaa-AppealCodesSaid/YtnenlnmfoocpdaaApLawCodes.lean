/-
  AppealCodes holds.
-/
import Derived.Test.YtnenlnmfoocpdaaRows
import Derived.Test.YtnenlnmfoocpdaaApCodes2
import Derived.Test.YtnenlnmfoocpdaaAmLaw
set_option linter.unusedSimpArgs false
set_option linter.unusedVariables false
namespace Go.Proofs.Ytnenlnmfoocpdaa
open Go.Am Go.Am.Ap

def shArt : Sh := .st [.int .i64, .int .i64, .int .i64, .int .i64]
def shCode : Sh := .st [.int .i64, .sl shArt, .int .i64, .int .i64, .int .i64, .int .i64]

theorem ofInt {k : IntKind} {ds : List D} (h : OfSh (.int k) ds) : ∃ n, ds = [.v (.int k n)] := by
  simp only [OfSh] at h
  obtain ⟨n, h, _⟩ := h
  exact ⟨n, h⟩

theorem ofArt {cs : List D} (h : OfSh shArt cs) : ∃ a : Art, .agg cs = a.d := by
  simp only [shArt, OfSh, OfAll] at h
  obtain ⟨_, _, rfl, ⟨n, rfl, _⟩, _, _, rfl, ⟨f, rfl, _⟩, _, _, rfl, ⟨l, rfl, _⟩, _, _, rfl, ⟨m, rfl, _⟩, rfl⟩ := h
  exact ⟨⟨n, f, l, m⟩, rfl⟩

theorem ofArts : ∀ {es : List D}, (∀ x, x ∈ es → ∃ cs, x = .agg cs ∧ OfSh shArt cs) → ∃ xs : List Art, es = xs.map Art.d
  | [], _ => ⟨[], rfl⟩
  | e :: es, h => by
    obtain ⟨cs, rfl, h1⟩ := h e (by simp)
    obtain ⟨a, ha⟩ := ofArt h1
    obtain ⟨xs, rfl⟩ := ofArts (es := es) fun x hx => h x (by simp [hx])
    exact ⟨a :: xs, by rw [ha]; rfl⟩

theorem ofCode {cs : List D} (h : OfSh shCode cs) : ∃ c : Cod, .agg cs = c.d := by
  simp only [shCode, OfSh, OfAll] at h
  obtain ⟨_, _, rfl, ⟨a, rfl, _⟩, _, _, rfl, ⟨es, rfl, _, hes⟩, _, _, rfl, ⟨w, rfl, _⟩, _, _, rfl, ⟨s, rfl, _⟩, _, _, rfl, ⟨f, rfl, _⟩, _, _, rfl, ⟨p, rfl, _⟩, rfl⟩ := h
  obtain ⟨xs, rfl⟩ := ofArts fun x hx => (hes x hx).1 rfl
  exact ⟨⟨a, xs, w, s, f, p⟩, rfl⟩

theorem argsCodes {dd : List D} (h : ArgsSh [shCode, .int .i64, .int .i64] dd) : ∃ (c : Cod) (n m : Int), dd = [c.d, I n, I m] := by
  obtain ⟨x, _, rfl, hx, y, _, rfl, hy, z, _, rfl, hz, rfl⟩ := h
  obtain ⟨cs, rfl, hc⟩ := hx.1 rfl
  obtain ⟨c, hc⟩ := ofCode hc
  obtain ⟨n, hn⟩ := ofInt (hy.2 rfl)
  obtain ⟨m, hm⟩ := ofInt (hz.2 rfl)
  cases hn
  cases hm
  exact ⟨c, n, m, by rw [hc]⟩

theorem own : ownKnob Try.prog.godebug = none := by kernel_rfl

set_option maxRecDepth 100000 in
theorem proved : Rows.AppealCodesSaid :=
  OpenClaim.holds_of_wide 7 Try.f7 rfl rfl rfl rfl rfl rfl rfl ⟨rfl, rfl, rfl, rfl, rfl⟩ rfl rfl rfl rfl rfl (by kernel_rfl) Try.func7 (by kernel_rfl) (of_decide_eq_true (by kernel_rfl)) (by unfold Func.isWrapper; first | (rw [if_pos (by decide +kernel)]; kernel_rfl) | (rw [if_neg (by decide +kernel)]; exact ⟨rfl, rfl⟩))
    (fun _ started _ _ _ => returnsInHanded_of_change (C := Try.checked) own started (by kernel_rfl) Try.func7
      (ChangeSpec.witness6 false ⟨#[], #[.agg #[.int .i64 0, .slice none 0 0, .int .i64 0, .int .i64 0, .int .i64 0, .int .i64 0], .int .i64 0, .int .i64 0], []⟩ 8 (by kernel_rfl) (by kernel_rfl) (by kernel_rfl) (by kernel_rfl))
      (fun _ base args ds gs before hval hW _ _ => law_contract (fn := Try.f7) (s := Rows.appealCodesSpec) (n := 8) (shs := [shCode, .int .i64, .int .i64]) (by kernel_rfl) (by kernel_rfl) rfl rfl (by kernel_rfl) (by kernel_rfl)
        (fun ds h => by
          match ds, h with
          | [_, _, _], _ => rfl)
        (fun dd h => by
          obtain ⟨c, n, m, rfl⟩ := argsCodes h
          exact c7 c n m) base args ds gs before hval hW))

end Go.Proofs.Ytnenlnmfoocpdaa
