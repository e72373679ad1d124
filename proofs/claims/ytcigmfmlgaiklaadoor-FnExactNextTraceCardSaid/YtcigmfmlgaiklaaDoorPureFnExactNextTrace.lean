/- For every alphabet and word, FnExactNextTrace answers true: the program's NextTrace and the reference's come to the same, and leave their arguments alone. No condition. -/
import Derived.Test.YtcigmfmlgaiklaaDoorPAllx11
import Derived.Test.YtcigmfmlgaiklaaDoorPAllx12
import Derived.Test.YtcigmfmlgaiklaaDoorPAllx13
import Derived.Test.YtcigmfmlgaiklaaDoorPAllx2
import Derived.Test.YtcigmfmlgaiklaaDoorV0
import Derived.Test.YtcigmfmlgaiklaaDoorV1
import Derived.Test.YtcigmfmlgaiklaaDoorV4
import Derived.Test.YtcigmfmlgaiklaaDoorV8
import Derived.Test.YtcigmfmlgaiklaaDoorQBase
import Derived.Test.YtcigmfmlgaiklaaDoorQTrace
import Derived.Test.YtcigmfmlgaiklaaDoorStmtFnExactNextTrace
set_option linter.unusedVariables false
set_option linter.unusedSimpArgs false
namespace Go.Proofs.YtcigmfmlgaiklaaDoor.LFnExactNextTrace
open Go.RowKit Go.Proofs.YtcigmfmlgaiklaaDoorW.PrintWords Go.Proofs.YtcigmfmlgaiklaaDoorW.PrintMore Go.Proofs.YtcigmfmlgaiklaaDoor.Q
open Go.Proofs.YtcigmfmlgaiklaaDoor.PAll
theorem both_ev (n : Int) (D l1 : List Int) : ∃ r : List Int × Int, r.1.length ≤ 100000 ∧ Ev (fun k => spec_NextTrace.f k n D l1) r ∧ Ev (fun k => impl_NextTrace.f k n D l1) r := by
  have hc := l03Code_ev n D l1 l1
  simp only [and_self] at hc
  have hk := checkWords_ev n D [l1]
  have e : (∀ x ∈ [l1], Word n x) ↔ Word n l1 := by simp
  simp only [e] at hk
  simp only [spec_NextTrace.f, impl_NextTrace.f, impl_Alphabet_ties.f]
  by_cases hA : Alpha n D
  · by_cases hW : Word n l1
    · rw [if_pos hA, if_pos hW] at hc hk
      obtain ⟨m, f, rfl, rfl, hm, hs, hr⟩ := hA.form
      obtain ⟨u, rfl, hul, hu⟩ := hW.form
      clear hA hW e
      have hnl := normalP_length f hs hu
      have hnlt := normalP_lt f hs hu
      have hrl := nextR_length m f (normalP f m u)
      refine ⟨nextR m f (normalP f m u) (normalP f m u).length, by omega, Ev.bind hc (Ev.pos rfl (Ev.bind (l03Normal_ev m (by omega) f u (by omega) hu) ?_)), Ev.bind hk (Ev.pos rfl (Ev.some_bind (Ev.bind (normal_ev m hm f u (by omega) hu) ?_)))⟩
      · have := spec_Next_l0 m hm f hr (normalP f m u) (by omega) hnlt (normalP f m u).length 0 (by omega)
        rw [show msks m f (normalP f m u) (0 + 1) = [0] by simp [msks, mskP]] at this
        exact this
      · have := impl_Next_l0 m hm f hr (normalP f m u) (by omega) hnlt (mat m f) (normalP f m u).length 0 (by omega)
        rw [show msks m f (normalP f m u) 0 = [] from rfl, mskP_zero] at this
        rw [ints_length]
        exact this
    · rw [if_pos hA, if_neg hW] at hc hk
      exact ⟨([], 2), by simp, Ev.bind hc (Ev.neg (by decide) (Ev.now _)), Ev.bind hk (Ev.neg (by decide) (Ev.now _))⟩
  · rw [if_neg hA] at hc hk
    exact ⟨([], 1), by simp, Ev.bind hc (Ev.neg (by decide) (Ev.now _)), Ev.bind hk (Ev.neg (by decide) (Ev.now _))⟩
theorem law_ev (n : Int) (D : List Int) (l1 : List Int) (hD : D.length ≤ maxLen) (hl1 : l1.length ≤ maxLen) : Ev (fun k => laws_FnExactNextTrace.f k n D l1) true := by
  unfold maxLen at hD hl1
  simp only [laws_FnExactNextTrace.f]
  refine Ev.ite (fun c => Ev.now _) (fun cl1 => ?_)
  rw [szAlphabet_eq n D 1048576 (by omega) (by omega) hD]
  refine Ev.some_bind (Ev.ite (fun c2 => Ev.now _) (fun c2 => ?_))
  have hD' : D.length ≤ 1048576 := by
    by_cases g : (D.length : Int) ≤ 1048576
    · omega
    · rw [if_neg g] at c2; omega
  have hA := toAlphabet_ev n D (by omega)
  have eA := eqAlphabet_ev n D (by omega)
  have tl1 := toInt64S_ev l1 (by omega)
  have el1 := eqInt64S_ev l1 (by omega)
  obtain ⟨r, hr, hs, hi⟩ := both_ev n D l1
  have er := eqInt64S_ev r.1 (by omega)
  have mA := markAlphabet_ev n D 1 (by omega) (by omega) (by omega)
  have ml1 := markInt64S_ev l1 (1 + (D.length : Int)) (by omega) (by omega) (by omega)
  have mr := markInt64S_ev r.1 1 (by omega) (by omega) (by omega)
  have he := heldInt64S_ev r.1 1 (by omega) (by omega)
  refine Ev.bind hA ?_
  refine Ev.bind tl1 ?_
  refine Ev.bind hs ?_
  refine Ev.bind hA ?_
  refine Ev.bind tl1 ?_
  refine Ev.bind hi ?_
  refine Ev.bind er (Ev.pos rfl (Ev.pos rfl ?_))
  refine Ev.bind hA (Ev.bind eA (Ev.pos rfl ?_))
  refine Ev.bind tl1 (Ev.bind el1 (Ev.pos rfl ?_))
  refine Ev.bind mA ?_
  refine Ev.bind ml1 ?_
  refine Ev.neg (by simp only []; omega) ?_
  refine Ev.bind er (Ev.pos rfl ?_)
  refine Ev.bind mr (Ev.bind he (Ev.neg (by omega) (Ev.pos rfl ?_)))
  refine Ev.bind hA ?_
  refine Ev.bind tl1 ?_
  refine Ev.bind hi (Ev.bind er (Ev.pos rfl (Ev.pos rfl ?_)))
  exact Ev.bind he (Ev.neg (by omega) (Ev.pos rfl (Ev.now _)))
theorem pure : PureStmt := fun n D l1 _ hD _ hl1 _ => (law_ev n D l1 hD hl1).rounds
end Go.Proofs.YtcigmfmlgaiklaaDoor.LFnExactNextTrace
