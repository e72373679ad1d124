import Derived.Test.YtfnnnopbcdiibaaDoorQTrace
set_option linter.unusedVariables false
set_option linter.unusedSimpArgs false
/-! Words taken away from words; common beginnings. -/
namespace Go.Proofs.YtfnnnopbcdiibaaDoor.Q
open Go.RowKit Go.Proofs.YtfnnnopbcdiibaaDoorW.PrintWords
section
variable (f : Nat → Nat → Bool)
theorem cutP_cons (a : Nat) (u v : List Nat) : cutP f (a :: u) v = if isFirst f v a then cutP f u (v.erase a) else none := rfl
/-- the same, for words of the same trace -/
theorem cutP_TrEq_right (hs : ∀ a b, f a b = f b a) {p u v r : List Nat} (h : TrEq f u v) (hr : cutP f p u = some r) : ∃ r', cutP f p v = some r' ∧ TrEq f r r' := by
  induction p generalizing u v with
  | nil => injection hr with hr; subst hr; exact ⟨v, rfl, h⟩
  | cons c p ih =>
    rw [cutP_cons] at hr
    by_cases h6 : isFirst f u c = true
    · rw [if_pos h6] at hr
      obtain ⟨h1, h2⟩ := TrEq.first f hs h c
      rw [cutP_cons, if_pos (h1 ▸ h6)]
      exact ih (h2 h6) hr
    · rw [if_neg h6] at hr; cases hr
/-- p is in front of u and of v, a and b are left, and nothing stands in front of both -/
def Meets (u v p a b : List Nat) : Prop := cutP f p u = some a ∧ cutP f p v = some b ∧ ∀ c, ¬ (isFirst f a c = true ∧ isFirst f b c = true)
theorem Meets.first (hs : ∀ a b, f a b = f b a) {u v p a b : List Nat} (h : Meets f u v p a b) {c : Nat} (hu : isFirst f u c = true) (hv : isFirst f v c = true) : isFirst f p c = true := by
  induction p generalizing u v with
  | nil =>
    obtain ⟨h1, h2, h3⟩ := h
    injection h1 with h1
    injection h2 with h2
    subst h1 h2
    exact absurd ⟨hu, hv⟩ (h3 c)
  | cons d p ih =>
    obtain ⟨h1, h2, h3⟩ := h
    rw [cutP_cons] at h1 h2
    by_cases g1 : isFirst f u d = true
    · by_cases g2 : isFirst f v d = true
      · rw [if_pos g1] at h1
        rw [if_pos g2] at h2
        by_cases e : d = c
        · subst e; exact isFirst_head f d p
        · have k1 := first_erase_of f hs (Ne.symm e) hu g1
          have k2 := first_erase_of f hs (Ne.symm e) hv g2
          have := ih ⟨h1, h2, h3⟩ k1.1 k2.1
          simp [isFirst, k1.2, this]
      · rw [if_neg g2] at h2; cases h2
    · rw [if_neg g1] at h1; cases h1
theorem Meets.cons {u v p a b : List Nat} {c : Nat} (hu : isFirst f u c = true) (hv : isFirst f v c = true) (h : Meets f (u.erase c) (v.erase c) p a b) : Meets f u v (c :: p) a b :=
  ⟨by rw [cutP_cons, if_pos hu]; exact h.1, by rw [cutP_cons, if_pos hv]; exact h.2.1, h.2.2⟩
end
end Go.Proofs.YtfnnnopbcdiibaaDoor.Q
