/- For every alphabet and words, FnExactMeetOf answers true: the program's MeetOf and the reference's come to the same, and leave their arguments alone. No condition. -/
import Derived.Test.YtopdbfdagckfeaaDoorPAllx1
import Derived.Test.YtopdbfdagckfeaaDoorPAllx18
import Derived.Test.YtopdbfdagckfeaaDoorPAllx19
import Derived.Test.YtopdbfdagckfeaaDoorV0
import Derived.Test.YtopdbfdagckfeaaDoorV1
import Derived.Test.YtopdbfdagckfeaaDoorV12
import Derived.Test.YtopdbfdagckfeaaDoorV4
import Derived.Test.YtopdbfdagckfeaaDoorV5
import Derived.Test.YtopdbfdagckfeaaDoorQBase
import Derived.Test.YtopdbfdagckfeaaDoorQMeet
import Derived.Test.YtopdbfdagckfeaaDoorQTrace
import Derived.Test.YtopdbfdagckfeaaDoorStmtFnExactMeetOf
set_option linter.unusedVariables false
set_option linter.unusedSimpArgs false
namespace Go.Proofs.YtopdbfdagckfeaaDoor.LFnExactMeetOf
open Go.RowKit Go.Proofs.YtopdbfdagckfeaaDoorW.PrintWords Go.Proofs.YtopdbfdagckfeaaDoorW.PrintMore Go.Proofs.YtopdbfdagckfeaaDoor.Q
open Go.Proofs.YtopdbfdagckfeaaDoor.PAll
theorem both_ev (n : Int) (D l1 l2 : List Int) : ∃ r : List Int × Int, r.1.length ≤ 100000 ∧ Ev (fun k => spec_MeetOf.f k n D l1 l2) r ∧ Ev (fun k => impl_MeetOf.f k n D l1 l2) r := by
  have hc := l03Code_ev n D l1 l2
  have hk := checkWords_ev n D [l1, l2]
  have e : (∀ x ∈ [l1, l2], Word n x) ↔ (Word n l1 ∧ Word n l2) := by simp
  simp only [e] at hk
  simp only [spec_MeetOf.f, impl_MeetOf.f, impl_Alphabet_ties.f]
  by_cases hA : Alpha n D
  · by_cases hW : Word n l1 ∧ Word n l2
    · rw [if_pos hA, if_pos hW] at hc hk
      obtain ⟨m, f, rfl, rfl, hm, hs, hr⟩ := hA.form
      obtain ⟨u, rfl, hul, hu⟩ := hW.1.form
      obtain ⟨v, rfl, hvl, hv⟩ := hW.2.form
      clear hA hW e
      obtain ⟨p, a, b, g1, h1⟩ := l05Meet_ev m (by omega) f u v (by omega) (by omega) hu hv
      obtain ⟨q, a2, b2, g2, h2⟩ := meet_ev m hm f u v (by omega) (by omega) hu hv
      have hp : ∀ x ∈ p, x < m := fun x hx => hu x (cutP_mem f g1.1 x hx)
      have hq : ∀ x ∈ q, x < m := fun x hx => hu x (cutP_mem f g2.1 x hx)
      have lp := Meets.le f g1
      have lq := Meets.le f g2
      have en := normalP_congr f hs hp hq (Meets.unique f hs g1 g2).1
      refine ⟨(ints (normalP f m p), 0), by rw [ints_length, normalP_length f hs hp]; omega, Ev.bind hc (Ev.pos rfl (Ev.bind h1 (Ev.bind (l03Normal_ev m (by omega) f p (by omega) hp) (Ev.now _)))), ?_⟩
      rw [en]
      exact Ev.bind hk (Ev.pos rfl (Ev.some_bind (Ev.bind h2 (Ev.some_bind (Ev.bind (normal_ev m hm f q (by omega) hq) (Ev.now _))))))
    · rw [if_pos hA, if_neg hW] at hc hk
      exact ⟨([], 2), by simp, Ev.bind hc (Ev.neg (by decide) (Ev.now _)), Ev.bind hk (Ev.neg (by decide) (Ev.now _))⟩
  · rw [if_neg hA] at hc hk
    exact ⟨([], 1), by simp, Ev.bind hc (Ev.neg (by decide) (Ev.now _)), Ev.bind hk (Ev.neg (by decide) (Ev.now _))⟩
theorem law_ev (n : Int) (D : List Int) (l1 : List Int) (l2 : List Int) (hD : D.length ≤ maxLen) (hl1 : l1.length ≤ maxLen) (hl2 : l2.length ≤ maxLen) : Ev (fun k => laws_FnExactMeetOf.f k n D l1 l2) true := by
  unfold maxLen at hD hl1 hl2
  simp only [laws_FnExactMeetOf.f]
  refine Ev.ite (fun c => Ev.now _) (fun cl1 => ?_)
  refine Ev.ite (fun c => Ev.now _) (fun cl2 => ?_)
  rw [szAlphabet_eq n D 1048576 (by omega) (by omega) hD]
  refine Ev.some_bind (Ev.ite (fun c2 => Ev.now _) (fun c2 => ?_))
  have hD' : D.length ≤ 1048576 := by
    by_cases g : (D.length : Int) ≤ 1048576
    · omega
    · rw [if_neg g] at c2; omega
  have hA := toAlphabet_ev n D (by omega)
  have eA := eqAlphabet_ev n D (by omega)
  have tl1 := toInt64S_ev l1 (by omega)
  have el1 := eqInt64S_ev l1 (by omega)
  have tl2 := toInt64S_ev l2 (by omega)
  have el2 := eqInt64S_ev l2 (by omega)
  obtain ⟨r, hr, hs, hi⟩ := both_ev n D l1 l2
  have er := eqInt64S_ev r.1 (by omega)
  have mA := markAlphabet_ev n D 1 (by omega) (by omega) (by omega)
  have ml1 := markInt64S_ev l1 (1 + (D.length : Int)) (by omega) (by omega) (by omega)
  have ml2 := markInt64S_ev l2 (1 + (D.length : Int) + (l1.length : Int)) (by omega) (by omega) (by omega)
  have mr := markInt64S_ev r.1 1 (by omega) (by omega) (by omega)
  have he := heldInt64S_ev r.1 1 (by omega) (by omega)
  refine Ev.bind hA ?_
  refine Ev.bind tl1 ?_
  refine Ev.bind tl2 ?_
  refine Ev.bind hs ?_
  refine Ev.bind hA ?_
  refine Ev.bind tl1 ?_
  refine Ev.bind tl2 ?_
  refine Ev.bind hi ?_
  refine Ev.bind er (Ev.pos rfl (Ev.pos rfl ?_))
  refine Ev.bind hA (Ev.bind eA (Ev.pos rfl ?_))
  refine Ev.bind tl1 (Ev.bind el1 (Ev.pos rfl ?_))
  refine Ev.bind tl2 (Ev.bind el2 (Ev.pos rfl ?_))
  refine Ev.bind mA ?_
  refine Ev.bind ml1 ?_
  refine Ev.bind ml2 ?_
  refine Ev.neg (by simp only []; omega) ?_
  refine Ev.bind er (Ev.pos rfl ?_)
  refine Ev.bind mr (Ev.bind he (Ev.neg (by omega) (Ev.pos rfl ?_)))
  refine Ev.bind hA ?_
  refine Ev.bind tl1 ?_
  refine Ev.bind tl2 ?_
  refine Ev.bind hi (Ev.bind er (Ev.pos rfl (Ev.pos rfl ?_)))
  exact Ev.bind he (Ev.neg (by omega) (Ev.pos rfl (Ev.now _)))
theorem pure : PureStmt := fun n D l1 l2 _ hD _ hl1 _ hl2 _ => (law_ev n D l1 l2 hD hl1 hl2).rounds
end Go.Proofs.YtopdbfdagckfeaaDoor.LFnExactMeetOf
