/- For every alphabet and word, FnExactLastLetters answers true: the program's LastLetters and the reference's come to the same, and leave their arguments alone. No condition. -/
import Derived.Test.YtopdbfdagckfeaaDoorPAllx1
import Derived.Test.YtopdbfdagckfeaaDoorPAllx15
import Derived.Test.YtopdbfdagckfeaaDoorV0
import Derived.Test.YtopdbfdagckfeaaDoorV1
import Derived.Test.YtopdbfdagckfeaaDoorV11
import Derived.Test.YtopdbfdagckfeaaDoorV2
import Derived.Test.YtopdbfdagckfeaaDoorQBase
import Derived.Test.YtopdbfdagckfeaaDoorQTrace
import Derived.Test.YtopdbfdagckfeaaDoorStmtFnExactLastLetters
set_option linter.unusedVariables false
set_option linter.unusedSimpArgs false
namespace Go.Proofs.YtopdbfdagckfeaaDoor.LFnExactLastLetters
open Go.RowKit Go.Proofs.YtopdbfdagckfeaaDoorW.PrintWords Go.Proofs.YtopdbfdagckfeaaDoorW.PrintMore Go.Proofs.YtopdbfdagckfeaaDoor.Q
open Go.Proofs.YtopdbfdagckfeaaDoor.PAll
theorem Word_reverse (n : Int) (w : List Int) : Word n w.reverse ↔ Word n w := by simp [Word]
theorem both_ev (n : Int) (D l1 : List Int) (hl : l1.length ≤ 10000000) : ∃ r : Int × Int, Ev (fun k => spec_LastLetters.f k n D l1) r ∧ Ev (fun k => impl_LastLetters.f k n D l1) r := by
  have hk := checkWords_ev n D [l1]
  have e : (∀ x ∈ [l1], Word n x) ↔ Word n l1 := by simp
  simp only [e] at hk
  have hb := l03Back_all l1 hl
  have hc := l03Code_ev n D l1.reverse l1.reverse
  simp only [Word_reverse, and_self] at hc
  simp only [spec_LastLetters.f, impl_LastLetters.f, impl_Alphabet_ties.f, impl_ties_lasts.f]
  by_cases hA : Alpha n D
  · by_cases hW : Word n l1
    · rw [if_pos hA, if_pos hW] at hc hk
      obtain ⟨m, f, rfl, rfl, hm, hs, hr⟩ := hA.form
      obtain ⟨u, rfl, hul, hu⟩ := hW.form
      clear hA hW e
      have hu' : ∀ x ∈ u.reverse, x < m := fun x hx => hu x (by simpa using hx)
      have er : (ints u).reverse = ints u.reverse := by simp [ints]
      rw [er] at hb hc
      have hF : Ev (fun k => spec_FirstLetters.f k (m : Int) (mat m f) (ints u.reverse)) (((mk m (isFirst f u.reverse) : Nat) : Int), 0) := by
        simp only [spec_FirstLetters.f]
        exact Ev.bind hc (Ev.pos rfl (FirstLetters_l0 m hm f _ (by simp; omega) hu' m 0 (by omega)))
      exact ⟨(((mk m (isFirst f u.reverse) : Nat) : Int), 0), Ev.bind hb (Ev.bind hF (Ev.now _)), Ev.bind hk (Ev.pos rfl (Ev.some_bind (Ev.bind (Ev.bind (reversed_ev u (by omega)) (Ev.bind (firsts_ev m hm f _ (by simp; omega) hu') (Ev.now _))) (Ev.now _))))⟩
    · rw [if_pos hA, if_neg hW] at hc hk
      have hF : Ev (fun k => spec_FirstLetters.f k n D l1.reverse) (0, 2) := by
        simp only [spec_FirstLetters.f]
        exact Ev.bind hc (Ev.neg (by decide) (Ev.now _))
      exact ⟨(0, 2), Ev.bind hb (Ev.bind hF (Ev.now _)), Ev.bind hk (Ev.neg (by decide) (Ev.now _))⟩
  · rw [if_neg hA] at hc hk
    have hF : Ev (fun k => spec_FirstLetters.f k n D l1.reverse) (0, 1) := by
        simp only [spec_FirstLetters.f]
        exact Ev.bind hc (Ev.neg (by decide) (Ev.now _))
    exact ⟨(0, 1), Ev.bind hb (Ev.bind hF (Ev.now _)), Ev.bind hk (Ev.neg (by decide) (Ev.now _))⟩
theorem law_ev (n : Int) (D : List Int) (l1 : List Int) (hD : D.length ≤ maxLen) (hl1 : l1.length ≤ maxLen) : Ev (fun k => laws_FnExactLastLetters.f k n D l1) true := by
  unfold maxLen at hD hl1
  simp only [laws_FnExactLastLetters.f]
  refine Ev.ite (fun c => Ev.now _) (fun cl1 => ?_)
  rw [szAlphabet_eq n D 1048576 (by omega) (by omega) hD]
  refine Ev.some_bind (Ev.ite (fun c2 => Ev.now _) (fun c2 => ?_))
  have hD' : D.length ≤ 1048576 := by
    by_cases g : (D.length : Int) ≤ 1048576
    · omega
    · rw [if_neg g] at c2; omega
  have hA := toAlphabet_ev n D (by omega)
  have eA := eqAlphabet_ev n D (by omega)
  have tl1 := toInt64S_ev l1 (by omega)
  have el1 := eqInt64S_ev l1 (by omega)
  obtain ⟨r, hs, hi⟩ := both_ev n D l1 (by omega)
  refine Ev.bind hA ?_
  refine Ev.bind tl1 ?_
  refine Ev.bind hs ?_
  refine Ev.bind hA ?_
  refine Ev.bind tl1 ?_
  refine Ev.bind hi ?_
  refine Ev.pos rfl (Ev.pos rfl ?_)
  refine Ev.bind hA (Ev.bind eA (Ev.pos rfl ?_))
  refine Ev.bind tl1 (Ev.bind el1 (Ev.pos rfl ?_))
  exact Ev.now _
theorem pure : PureStmt := fun n D l1 _ hD _ hl1 _ => (law_ev n D l1 hD hl1).rounds
end Go.Proofs.YtopdbfdagckfeaaDoor.LFnExactLastLetters
