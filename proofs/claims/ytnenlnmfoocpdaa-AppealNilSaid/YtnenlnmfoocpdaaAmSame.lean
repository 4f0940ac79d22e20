/-
  Equality that the kernel can decide: of constants, expressions, symbolic values.
-/
import Derived.Test.YtnenlnmfoocpdaaAmRep
set_option linter.unusedSimpArgs false
set_option linter.unusedVariables false
namespace Go.Am


def E.same : E → E → Bool
  | .sym a, .sym b => decide (a = b)
  | .const a, .const b => D.same a b
  | .bin o k a b, .bin o' k' a' b' => decide (o = o') && decide (k = k') && a.same a' && b.same b'
  | .un o a, .un o' a' => decide (o = o') && a.same a'
  | .conv k a, .conv k' a' => decide (k = k') && a.same a'
  | .lenL a, .lenL a' => a.same a'
  | .lenS a, .lenS a' => a.same a'
  | .scal a, .scal a' => a.same a'
  | .cell i a, .cell i' a' => decide (i = i') && a.same a'
  | .cells i n a, .cells i' n' a' => decide (i = i') && decide (n = n') && a.same a'
  | .aggN n a, .aggN n' a' => decide (n = n') && a.same a'
  | .idx a b, .idx a' b' => a.same a' && b.same b'
  | .idxN n a b, .idxN n' a' b' => decide (n = n') && a.same a' && b.same b'
  | .nil, .nil => true
  | .cons a b, .cons a' b' => a.same a' && b.same b'
  | .one a, .one a' => a.same a'
  | .app n m a b, .app n' m' a' b' => decide (n = n') && decide (m = m') && a.same a' && b.same b'
  | .lcons a b, .lcons a' b' => a.same a' && b.same b'
  | .mkptr a, .mkptr a' => a.same a'
  | .mkfn f a b, .mkfn f' a' b' => decide (f = f') && a.same a' && b.same b'
  | .sub n a b c, .sub n' a' b' c' => decide (n = n') && a.same a' && b.same b' && c.same c'
  | .set a b n c, .set a' b' n' c' => a.same a' && b.same b' && decide (n = n') && c.same c'
  | .ite a b c, .ite a' b' c' => a.same a' && b.same b' && c.same c'
  | .guard a w b, .guard a' w' b' => a.same a' && decide (w = w') && b.same b'
  | .tnil, .tnil => true
  | .tcons a b, .tcons a' b' => a.same a' && b.same b'
  | .tget i a, .tget i' a' => decide (i = i') && a.same a'
  | .rep n a d, .rep n' a' d' => decide (n = n') && a.same a' && D.same d d'
  | .deref a, .deref a' => a.same a'
  | .ifc t a, .ifc t' a' => decide (t = t') && a.same a'
  | .mm m a b, .mm m' a' b' => decide (m = m') && a.same a' && b.same b'
  | .padd k a, .padd k' a' => decide (k = k') && a.same a'
  | .nn a, .nn a' => a.same a'
  | .eaddr n a b, .eaddr n' a' b' => decide (n = n') && a.same a' && b.same b'
  | .ld g n a b, .ld g' n' a' b' => decide (g = g') && decide (n = n') && a.same a' && b.same b'
  | .sto n a b c, .sto n' a' b' c' => decide (n = n') && a.same a' && b.same b' && c.same c'
  | .newb e n a b, .newb e' n' a' b' => decide (e = e') && decide (n = n') && a.same a' && b.same b'
  | .fstid a, .fstid a' => a.same a'
  | .newv e n a b, .newv e' n' a' b' => decide (e = e') && decide (n = n') && a.same a' && b.same b'
  | .fstsl a b, .fstsl a' b' => a.same a' && b.same b'
  | .apph e n m a b c, .apph e' n' m' a' b' c' => decide (e = e') && decide (n = n') && decide (m = m') && a.same a' && b.same b' && c.same c'
  | .apps a b c, .apps a' b' c' => a.same a' && b.same b' && c.same c'
  | .frzv g a b, .frzv g' a' b' => decide (g = g') && a.same a' && b.same b'
  | .frzh a b, .frzh a' b' => a.same a' && b.same b'
  | .m4 o a b c d, .m4 o' a' b' c' d' => decide (o = o') && a.same a' && b.same b' && c.same c' && d.same d'
  | _, _ => false

theorem E.same_eq : ∀ {a b : E}, E.same a b = true → a = b := by
  intro a
  induction a <;> intro b h <;> cases b <;> simp only [E.same, Bool.and_eq_true, decide_eq_true_eq, Bool.false_eq_true] at h <;> first
    | rfl
    | (subst h; rfl)
    | (rw [D.same_eq h])
    | (rename_i ih _; rw [ih h])
    | (rename_i ih _ _; obtain ⟨rfl, h2⟩ := h; rw [ih h2])
    | (rename_i ih _ _ _; obtain ⟨⟨rfl, rfl⟩, h2⟩ := h; rw [ih h2])
    | (rename_i ih1 ih2 _ _; rw [ih1 h.1, ih2 h.2])
    | (rename_i ih1 ih2 _ _ _; obtain ⟨⟨rfl, h1⟩, h2⟩ := h; rw [ih1 h1, ih2 h2])
    | (rename_i ih1 ih2 _ _ _ _; obtain ⟨⟨⟨rfl, rfl⟩, h1⟩, h2⟩ := h; rw [ih1 h1, ih2 h2])
    | (rename_i ih1 ih2 ih3 _ _ _; rw [ih1 h.1.1, ih2 h.1.2, ih3 h.2])
    | (rename_i ih1 ih2 ih3 _ _ _ _; obtain ⟨⟨⟨rfl, h1⟩, h2⟩, h3⟩ := h; rw [ih1 h1, ih2 h2, ih3 h3])
    | (rename_i ih1 ih2 ih3 _ _ _ _; obtain ⟨⟨⟨h1, h2⟩, rfl⟩, h3⟩ := h; rw [ih1 h1, ih2 h2, ih3 h3])
    | (rename_i ih1 ih2 ih3 _ _ _ _ _ _; obtain ⟨⟨⟨⟨⟨rfl, rfl⟩, rfl⟩, h1⟩, h2⟩, h3⟩ := h; rw [ih1 h1, ih2 h2, ih3 h3])
    | (rename_i ih1 ih2 _ _ _; obtain ⟨⟨h1, rfl⟩, h2⟩ := h; rw [ih1 h1, ih2 h2])
    | (rename_i ih _ _ _; obtain ⟨⟨rfl, h1⟩, h2⟩ := h; rw [ih h1, D.same_eq h2])
    | (rename_i ih1 ih2 ih3 ih4 _ _ _ _ _; obtain ⟨⟨⟨⟨rfl, h1⟩, h2⟩, h3⟩, h4⟩ := h; rw [ih1 h1, ih2 h2, ih3 h3, ih4 h4])

/-- two lists of conditions, the first a beginning of the second -/
def actPre : List (E × Bool) → List (E × Bool) → Bool
  | [], _ => true
  | p :: r, q :: s => p.1.same q.1 && decide (p.2 = q.2) && actPre r s
  | _ :: _, [] => false

theorem actPre_sub : ∀ {a b : List (E × Bool)}, actPre a b = true → ∀ p, p ∈ a → p ∈ b
  | [], _, _, p, hp => by cases hp
  | x :: r, y :: s, h, p, hp => by
    simp only [actPre, Bool.and_eq_true, decide_eq_true_eq] at h
    obtain ⟨⟨h1, h2⟩, h3⟩ := h
    have hxy : x = y := Prod.ext (E.same_eq h1) h2
    subst hxy
    cases hp with
    | head => simp
    | tail _ hp => simp [actPre_sub h3 p hp]
  | _ :: _, [], h, _, _ => by simp [actPre] at h

/-- a symbolic value, where the conditions hold -/
def SV.strip (act : List (E × Bool)) : SV → SV
  | .cond a sv => if actPre a act then sv else .junk
  | sv => sv

theorem SV.strip_rd {w : World} {ρ : Rho} {env : List D} {v : Value} {sv : SV} {act : List (E × Bool)} (h : SRd w ρ env v sv) (ha : actHolds env act) : SRd w ρ env v (sv.strip act) := by
  unfold SV.strip
  split
  · split
    · rename_i hp
      exact h.cond_inv.2.1 fun p hq => ha p (actPre_sub hp p hq)
    · exact .junk
  · exact h

mutual
def SV.same : SV → SV → Bool
  | .junk, .junk => true
  | .e x s, .e y t => x.same y && decide (s = t)
  | .agg a, .agg b => SV.sames a b
  | .tup a, .tup b => SV.sames a b
  | .addr o f, .addr o' f' => decide (o = o') && decide (f = f')
  | .eaddr o x s f, .eaddr o' x' s' f' => decide (o = o') && x.same x' && decide (s = s') && decide (f = f')
  | .iptr x f, .iptr x' f' => x.same x' && decide (f = f')
  | .own x k, .own x' k' => x.same x' && decide (k = k')
  | .slc o, .slc o' => decide (o = o')
  | .func fn a, .func fn' b => decide (fn = fn') && SV.sames a b
  | _, _ => false
def SV.sames : List SV → List SV → Bool
  | [], [] => true
  | a :: r, b :: s => a.same b && SV.sames r s
  | _, _ => false
end

mutual
theorem SV.same_eq : ∀ {a b : SV}, SV.same a b = true → a = b
  | .junk, b, h => by cases b <;> first | rfl | simp [SV.same] at h
  | .e x s, b, h => by cases b <;> first | (simp only [SV.same, Bool.and_eq_true, decide_eq_true_eq] at h; rw [E.same_eq h.1, h.2]) | simp [SV.same] at h
  | .agg a, b, h => by cases b <;> first | (simp only [SV.same] at h; rw [SV.sames_eq h]) | simp [SV.same] at h
  | .tup a, b, h => by cases b <;> first | (simp only [SV.same] at h; rw [SV.sames_eq h]) | simp [SV.same] at h
  | .addr o f, b, h => by cases b <;> first | (simp only [SV.same, Bool.and_eq_true, decide_eq_true_eq] at h; rw [h.1, h.2]) | simp [SV.same] at h
  | .eaddr o x s f, b, h => by cases b <;> first | (simp only [SV.same, Bool.and_eq_true, decide_eq_true_eq] at h; rw [h.1.1.1, E.same_eq h.1.1.2, h.1.2, h.2]) | simp [SV.same] at h
  | .iptr x f, b, h => by cases b <;> first | (simp only [SV.same, Bool.and_eq_true, decide_eq_true_eq] at h; rw [E.same_eq h.1, h.2]) | simp [SV.same] at h
  | .own x k, b, h => by cases b <;> first | (simp only [SV.same, Bool.and_eq_true, decide_eq_true_eq] at h; rw [E.same_eq h.1, h.2]) | simp [SV.same] at h
  | .slc o, b, h => by cases b <;> first | (simp only [SV.same, decide_eq_true_eq] at h; rw [h]) | simp [SV.same] at h
  | .func fn a, b, h => by cases b <;> first | (simp only [SV.same, Bool.and_eq_true, decide_eq_true_eq] at h; rw [h.1, SV.sames_eq h.2]) | simp [SV.same] at h
  | .cond act sv, b, h => by cases b <;> simp [SV.same] at h
theorem SV.sames_eq : ∀ {a b : List SV}, SV.sames a b = true → a = b
  | [], [], _ => rfl
  | a :: r, b :: s, h => by
    simp only [SV.sames, Bool.and_eq_true] at h
    rw [SV.same_eq h.1, SV.sames_eq h.2]
  | [], _ :: _, h | _ :: _, [], h => by simp [SV.sames] at h
end

end Go.Am
