/- For every list p of whole numbers and every number n, FnExactInverseSeries answers true: the program's InverseSeries and the reference's come to the same numbers and the same code, neither turns its argument, and what is handed back is new memory. No condition. -/
import Derived.Test.YtopdbfdagckfeaaVIntsFnExactInverseSeries
import Derived.Test.YtopdbfdagckfeaaVInvSeriesFnExactInverseSeries
set_option linter.unusedVariables false
set_option linter.unusedSimpArgs false
namespace Go.Proofs.Ytopdbfdagckfeaa.PFnExactInverseSeries
open Go.RowKit Go.Proofs.YtopdbfdagckfeaaW.PrintWords Go.Proofs.Ytopdbfdagckfeaa.Q

theorem invSeries_length (p : List Int) (n : Int) : (invSeries p n).1.length ≤ 25 := by
  unfold invSeries
  split
  · simp
  · rename_i h
    simp only [not_or, Decidable.not_not] at h
    split
    · simp
    · have := invLoop_length p n.toNat [1]
      simp at this
      omega

theorem law_ev (p : List Int) (n : Int) (hp : p.length ≤ 17592186044416) : Ev (fun k => laws_FnExactInverseSeries.f k p n) true := by
  simp only [laws_FnExactInverseSeries.f]
  refine Ev.ite (fun c => Ev.now _) (fun c => ?_)
  have hs := spec_InverseSeries_ev p n hp
  have hi := impl_InverseSeries_ev p n
  have hl := invSeries_length p n
  generalize invSeries p n = r at *
  obtain ⟨q, e⟩ := r
  simp only at hl
  have ht := toInt64S_ev p hp
  have hq := eqInt64S_ev q (by omega)
  have hm := markInt64S_ev p 1 (by omega) (by omega) (by omega)
  have hm' := markInt64S_ev q 1 (by omega) (by omega) (by omega)
  have hh := heldInt64S_ev q 1 (by omega) (by omega)
  refine Ev.bind ht (Ev.bind hs (Ev.bind ht (Ev.bind hi (Ev.bind hq (Ev.pos rfl ?_)))))
  refine Ev.succ ?_
  simp only [laws_FnExactInverseSeries.j0]
  refine Ev.neg (by simp) (Ev.bind ht (Ev.bind (eqInt64S_ev p hp) (Ev.pos rfl (Ev.bind hm (Ev.neg (by simp only; omega) (Ev.bind hq (Ev.pos rfl ?_)))))))
  refine Ev.succ ?_
  simp only [laws_FnExactInverseSeries.j1]
  refine Ev.neg (by simp) (Ev.bind hm' (Ev.bind hh (Ev.neg (by omega) (Ev.pos rfl (Ev.bind ht (Ev.bind hi (Ev.bind hq (Ev.pos rfl ?_))))))))
  refine Ev.succ ?_
  simp only [laws_FnExactInverseSeries.j2]
  exact Ev.neg (by simp) (Ev.bind hh (Ev.neg (by omega) (Ev.pos rfl (Ev.now _))))
end Go.Proofs.Ytopdbfdagckfeaa.PFnExactInverseSeries
namespace Go.Proofs.Ytopdbfdagckfeaa.Pure
open Go.RowKit Go.Proofs.YtopdbfdagckfeaaW.PrintWords Go.Proofs.Ytopdbfdagckfeaa.PFnExactInverseSeries

theorem FnExactInverseSeries : laws_FnExactInverseSeries.Pure := by
  intro p n h0 h1 h2 h3
  exact (law_ev p n (by omega)).rounds

end Go.Proofs.Ytopdbfdagckfeaa.Pure
