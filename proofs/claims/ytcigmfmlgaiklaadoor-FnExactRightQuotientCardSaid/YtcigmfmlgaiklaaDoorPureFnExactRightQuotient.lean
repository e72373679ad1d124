/- For every alphabet and words, FnExactRightQuotient answers true: the program's RightQuotient and the reference's come to the same, and leave their arguments alone. No condition. -/
import Derived.Test.YtcigmfmlgaiklaaDoorPAllx2
import Derived.Test.YtcigmfmlgaiklaaDoorPAllx23
import Derived.Test.YtcigmfmlgaiklaaDoorPAllx24
import Derived.Test.YtcigmfmlgaiklaaDoorV0
import Derived.Test.YtcigmfmlgaiklaaDoorV1
import Derived.Test.YtcigmfmlgaiklaaDoorV13
import Derived.Test.YtcigmfmlgaiklaaDoorV2
import Derived.Test.YtcigmfmlgaiklaaDoorV5
import Derived.Test.YtcigmfmlgaiklaaDoorQBase
import Derived.Test.YtcigmfmlgaiklaaDoorQMeet
import Derived.Test.YtcigmfmlgaiklaaDoorQTrace
import Derived.Test.YtcigmfmlgaiklaaDoorStmtFnExactRightQuotient
set_option linter.unusedVariables false
set_option linter.unusedSimpArgs false
namespace Go.Proofs.YtcigmfmlgaiklaaDoor.LFnExactRightQuotient
open Go.RowKit Go.Proofs.YtcigmfmlgaiklaaDoorW.PrintWords Go.Proofs.YtcigmfmlgaiklaaDoorW.PrintMore Go.Proofs.YtcigmfmlgaiklaaDoor.Q
open Go.Proofs.YtcigmfmlgaiklaaDoor.PAll
theorem both_ev (n : Int) (D l1 l2 : List Int) : ∃ r : List Int × Int, r.1.length ≤ 100000 ∧ Ev (fun k => spec_RightQuotient.f k n D l1 l2) r ∧ Ev (fun k => impl_RightQuotient.f k n D l1 l2) r := by
  have hc := l03Code_ev n D l1 l2
  have hk := checkWords_ev n D [l1, l2]
  have e : (∀ x ∈ [l1, l2], Word n x) ↔ (Word n l1 ∧ Word n l2) := by simp
  simp only [e] at hk
  simp only [spec_RightQuotient.f, impl_RightQuotient.f, impl_Alphabet_ties.f]
  by_cases hA : Alpha n D
  · by_cases hW : Word n l1 ∧ Word n l2
    · rw [if_pos hA, if_pos hW] at hc hk
      obtain ⟨m, f, rfl, rfl, hm, hs, hr⟩ := hA.form
      obtain ⟨u, rfl, hul, hu⟩ := hW.1.form
      obtain ⟨v, rfl, hvl, hv⟩ := hW.2.form
      clear hA hW e
      have hu' : ∀ x ∈ u.reverse, x < m := fun x hx => hu x (by simpa using hx)
      have hv' : ∀ x ∈ v.reverse, x < m := fun x hx => hv x (by simpa using hx)
      have h1 := l05Cut_ev m (by omega) f u.reverse v.reverse (by simp; omega) (by simp; omega) hu' hv'
      have h2 := quotient_ev m hm f u.reverse v.reverse (by simp; omega) (by simp; omega) hu' hv'
      have b1 := l03Back_ev u (by omega)
      have b2 := l03Back_ev v (by omega)
      have c1 := reversed_ev u (by omega)
      have c2 := reversed_ev v (by omega)
      unfold cutR at h1 h2
      cases e : cutP f u.reverse v.reverse with
      | none =>
        rw [e] at h1 h2
        refine ⟨([], 4), by simp, Ev.bind hc (Ev.pos rfl (Ev.bind b1 (Ev.bind b2 (Ev.bind h1 ?_)))), Ev.bind hk (Ev.pos rfl (Ev.some_bind (Ev.bind c1 (Ev.bind c2 (Ev.bind h2 ?_)))))⟩
        · exact Ev.neg (by simp) (Ev.now _)
        · exact Ev.neg (by simp) (Ev.now _)
      | some r =>
        rw [e] at h1 h2
        have hr' : ∀ x ∈ r.reverse, x < m := fun x hx => hv' x (cutP_sub f e x (by simpa using hx))
        have hrl := cutP_length f e
        simp only [List.length_reverse] at hrl
        have hrv : r.reverse.length ≤ 24 := by simp; omega
        refine ⟨(ints (normalP f m r.reverse), 0), by rw [ints_length, normalP_length f hs hr']; omega, Ev.bind hc (Ev.pos rfl (Ev.bind b1 (Ev.bind b2 (Ev.bind h1 ?_)))), Ev.bind hk (Ev.pos rfl (Ev.some_bind (Ev.bind c1 (Ev.bind c2 (Ev.bind h2 ?_)))))⟩
        · exact Ev.pos rfl (Ev.bind (l03Back_ev r (by omega)) (Ev.bind (l03Normal_ev m (by omega) f _ (by omega) hr') (Ev.now _)))
        · exact Ev.pos rfl (Ev.some_bind (Ev.bind (reversed_ev r (by omega)) (Ev.bind (normal_ev m hm f _ (by omega) hr') (Ev.now _))))
    · rw [if_pos hA, if_neg hW] at hc hk
      exact ⟨([], 2), by simp, Ev.bind hc (Ev.neg (by decide) (Ev.now _)), Ev.bind hk (Ev.neg (by decide) (Ev.now _))⟩
  · rw [if_neg hA] at hc hk
    exact ⟨([], 1), by simp, Ev.bind hc (Ev.neg (by decide) (Ev.now _)), Ev.bind hk (Ev.neg (by decide) (Ev.now _))⟩
theorem law_ev (n : Int) (D : List Int) (l1 : List Int) (l2 : List Int) (hD : D.length ≤ maxLen) (hl1 : l1.length ≤ maxLen) (hl2 : l2.length ≤ maxLen) : Ev (fun k => laws_FnExactRightQuotient.f k n D l1 l2) true := by
  unfold maxLen at hD hl1 hl2
  simp only [laws_FnExactRightQuotient.f]
  refine Ev.ite (fun c => Ev.now _) (fun cl1 => ?_)
  refine Ev.ite (fun c => Ev.now _) (fun cl2 => ?_)
  rw [szAlphabet_eq n D 1048576 (by omega) (by omega) hD]
  refine Ev.some_bind (Ev.ite (fun c2 => Ev.now _) (fun c2 => ?_))
  have hD' : D.length ≤ 1048576 := by
    by_cases g : (D.length : Int) ≤ 1048576
    · omega
    · rw [if_neg g] at c2; omega
  have hA := toAlphabet_ev n D (by omega)
  have eA := eqAlphabet_ev n D (by omega)
  have tl1 := toInt64S_ev l1 (by omega)
  have el1 := eqInt64S_ev l1 (by omega)
  have tl2 := toInt64S_ev l2 (by omega)
  have el2 := eqInt64S_ev l2 (by omega)
  obtain ⟨r, hr, hs, hi⟩ := both_ev n D l1 l2
  have er := eqInt64S_ev r.1 (by omega)
  have mA := markAlphabet_ev n D 1 (by omega) (by omega) (by omega)
  have ml1 := markInt64S_ev l1 (1 + (D.length : Int)) (by omega) (by omega) (by omega)
  have ml2 := markInt64S_ev l2 (1 + (D.length : Int) + (l1.length : Int)) (by omega) (by omega) (by omega)
  have mr := markInt64S_ev r.1 1 (by omega) (by omega) (by omega)
  have he := heldInt64S_ev r.1 1 (by omega) (by omega)
  refine Ev.bind hA ?_
  refine Ev.bind tl1 ?_
  refine Ev.bind tl2 ?_
  refine Ev.bind hs ?_
  refine Ev.bind hA ?_
  refine Ev.bind tl1 ?_
  refine Ev.bind tl2 ?_
  refine Ev.bind hi ?_
  refine Ev.bind er (Ev.pos rfl (Ev.pos rfl ?_))
  refine Ev.bind hA (Ev.bind eA (Ev.pos rfl ?_))
  refine Ev.bind tl1 (Ev.bind el1 (Ev.pos rfl ?_))
  refine Ev.bind tl2 (Ev.bind el2 (Ev.pos rfl ?_))
  refine Ev.bind mA ?_
  refine Ev.bind ml1 ?_
  refine Ev.bind ml2 ?_
  refine Ev.neg (by simp only []; omega) ?_
  refine Ev.bind er (Ev.pos rfl ?_)
  refine Ev.bind mr (Ev.bind he (Ev.neg (by omega) (Ev.pos rfl ?_)))
  refine Ev.bind hA ?_
  refine Ev.bind tl1 ?_
  refine Ev.bind tl2 ?_
  refine Ev.bind hi (Ev.bind er (Ev.pos rfl (Ev.pos rfl ?_)))
  exact Ev.bind he (Ev.neg (by omega) (Ev.pos rfl (Ev.now _)))
theorem pure : PureStmt := fun n D l1 l2 _ hD _ hl1 _ hl2 _ => (law_ev n D l1 l2 hD hl1 hl2).rounds
end Go.Proofs.YtcigmfmlgaiklaaDoor.LFnExactRightQuotient
