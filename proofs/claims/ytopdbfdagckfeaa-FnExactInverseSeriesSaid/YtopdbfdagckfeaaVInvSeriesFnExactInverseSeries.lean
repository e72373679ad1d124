import Derived.Test.YtopdbfdagckfeaaVInvFnExactInverseSeries
set_option linter.unusedVariables false
set_option linter.unusedSimpArgs false
namespace Go.Proofs.Ytopdbfdagckfeaa.PFnExactInverseSeries
open Go.RowKit Go.Proofs.YtopdbfdagckfeaaW.PrintWords Go.Proofs.Ytopdbfdagckfeaa.Q

theorem impl_InverseSeries_ev (p : List Int) (n : Int) : Ev (fun k => impl_InverseSeries.f k p n) (invSeries p n) := by
  simp only [impl_InverseSeries.f, inRange_eq, impl_allIn.f]
  refine Ev.some_bind ?_
  simp only [decide_eq_true_eq]
  refine Ev.ite (fun c1 => Ev.some_bind ?_) (fun c1 => ?_)
  · refine Ev.succ ?_
    simp only [impl_InverseSeries.j0]
    refine Ev.ite (fun c2 => ?_) (fun c2 => ?_)
    · have h : ¬ ∀ x ∈ p, -1000 ≤ x ∧ x ≤ 1000 := by
        intro h
        simp only [Bool.not_eq_true', List.all_eq_false] at c2
        obtain ⟨x, hx, hx'⟩ := c2
        exact hx' (by simpa using h x hx)
      unfold invSeries
      rw [if_pos (.inr h)]
      exact Ev.now _
    · have h : ∀ x ∈ p, -1000 ≤ x ∧ x ≤ 1000 := by simpa using c2
      unfold invSeries
      rw [if_neg (by simp only [not_or, Decidable.not_not]; exact ⟨c1, h⟩)]
      refine Ev.ite (fun c3 => ?_) (fun c3 => Ev.pos (by omega) (Ev.ite (fun c4 => ?_) (fun c4 => ?_)))
      · rw [if_pos (.inl (by omega))]
        exact Ev.now _
      · rw [if_neg (by simp only [not_or]; exact ⟨by omega, by simpa using c4⟩)]
        obtain ⟨m, rfl⟩ := Int.eq_ofNat_of_zero_le c1.1
        exact Ev.bind (impl_inverse_ev p m (by omega) h) (Ev.now _)
      · rw [if_pos (.inr c4)]
        exact Ev.now _
  · refine Ev.succ ?_
    simp only [impl_InverseSeries.j0]
    unfold invSeries
    rw [if_pos (.inl c1)]
    exact Ev.pos (by simp) (Ev.now _)
end Go.Proofs.Ytopdbfdagckfeaa.PFnExactInverseSeries
