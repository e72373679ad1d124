/- For every alphabet and word, FnExactWidthOf answers true: the program's WidthOf and the reference's come to the same, and leave their arguments alone. No condition. -/
import Derived.Test.YtcigmfmlgaiklaaDoorPAllx1
import Derived.Test.YtcigmfmlgaiklaaDoorPAllx2
import Derived.Test.YtcigmfmlgaiklaaDoorPAllx20
import Derived.Test.YtcigmfmlgaiklaaDoorV0
import Derived.Test.YtcigmfmlgaiklaaDoorV1
import Derived.Test.YtcigmfmlgaiklaaDoorV11
import Derived.Test.YtcigmfmlgaiklaaDoorV3
import Derived.Test.YtcigmfmlgaiklaaDoorV6
import Derived.Test.YtcigmfmlgaiklaaDoorQBase
import Derived.Test.YtcigmfmlgaiklaaDoorQMask
import Derived.Test.YtcigmfmlgaiklaaDoorQOrder
import Derived.Test.YtcigmfmlgaiklaaDoorQTrace
import Derived.Test.YtcigmfmlgaiklaaDoorStmtFnExactWidthOf
set_option linter.unusedVariables false
set_option linter.unusedSimpArgs false
namespace Go.Proofs.YtcigmfmlgaiklaaDoor.LFnExactWidthOf
open Go.RowKit Go.Proofs.YtcigmfmlgaiklaaDoorW.PrintWords Go.Proofs.YtcigmfmlgaiklaaDoorW.PrintMore Go.Proofs.YtcigmfmlgaiklaaDoor.Q
open Go.Proofs.YtcigmfmlgaiklaaDoor.PAll
theorem both_ev (n : Int) (D l1 : List Int) : ∃ r : Int × Int, Ev (fun k => spec_WidthOf.f k n D l1) r ∧ Ev (fun k => impl_WidthOf.f k n D l1) r := by
  have hc := l03Code_ev n D l1 l1
  simp only [and_self] at hc
  have hk := checkWords_ev n D [l1]
  have e : (∀ x ∈ [l1], Word n x) ↔ Word n l1 := by simp
  simp only [e] at hk
  simp only [spec_WidthOf.f, impl_WidthOf.f, impl_Alphabet_ties.f]
  by_cases hA : Alpha n D
  · by_cases hW : Word n l1
    · rw [if_pos hA, if_pos hW] at hc hk
      obtain ⟨m, f, rfl, rfl, hm, hs, hr⟩ := hA.form
      obtain ⟨u, rfl, hul, hu⟩ := hW.form
      clear hA hW e
      have h1 := l04Code_ok m hm f hs u hul hu hc
      have h2 := positions_ev m hm f hs u hul hu
      have hp := Nat.two_pow_pos u.length
      have h24 := pow_lt62 hul
      have hw : wdN (fun i k => !ordP f (normalP f m u) i k) u.length 0 (openP 0) = wdN (fun i b => !ordP f (normalP f m u) b i && !ordP f (normalP f m u) i b) u.length 0 (fun k => (2 ^ u.length - 1).testBit k) := wdN_congr u.length (fun i k hik _ => by
          cases h : ordP f (normalP f m u) k i with
          | false => rfl
          | true =>
            have hle : k ≤ i := clos_le (n := (normalP f m u).length) (fun i k h => (eP_lt h).1) h
            omega) u.length 0 _ _ (by omega) (fun k _ hk => by rw [testBit_full]; simp [openP, hk])
      refine ⟨(((wdN (fun i k => !ordP f (normalP f m u) i k) u.length 0 (openP 0) : Nat) : Int), 0), Ev.bind h1 (Ev.pos rfl (Ev.bind (l04Width_ev u.length hul _ u.length 0 0 (by omega) hp) (Ev.now _))), ?_⟩
      refine Ev.bind hk (Ev.pos rfl (Ev.bind h2 (Ev.bind (concurrent_ev u.length hul _) ?_)))
      simp only [impl_length_int64.f]
      refine Ev.some_bind ?_
      rw [ints_length, one_eq u.length (by omega)]
      refine Ev.some_bind ?_
      rw [w64' (by omega), show ((2 ^ u.length : Nat) : Int) - 1 = ((2 ^ u.length - 1 : Nat) : Int) by omega, hw]
      exact Ev.bind (mostTogether_ev u.length hul _ _ (by omega)) (Ev.now _)
    · rw [if_pos hA, if_neg hW] at hc hk
      exact ⟨(0, 2), Ev.bind (l04Code_bad n D l1 2 (by decide) hc) (Ev.neg (by decide) (Ev.now _)), Ev.bind hk (Ev.neg (by decide) (Ev.now _))⟩
  · rw [if_neg hA] at hc hk
    exact ⟨(0, 1), Ev.bind (l04Code_bad n D l1 1 (by decide) hc) (Ev.neg (by decide) (Ev.now _)), Ev.bind hk (Ev.neg (by decide) (Ev.now _))⟩
theorem law_ev (n : Int) (D : List Int) (l1 : List Int) (hD : D.length ≤ maxLen) (hl1 : l1.length ≤ maxLen) : Ev (fun k => laws_FnExactWidthOf.f k n D l1) true := by
  unfold maxLen at hD hl1
  simp only [laws_FnExactWidthOf.f]
  refine Ev.ite (fun c => Ev.now _) (fun cl1 => ?_)
  rw [szAlphabet_eq n D 1048576 (by omega) (by omega) hD]
  refine Ev.some_bind (Ev.ite (fun c2 => Ev.now _) (fun c2 => ?_))
  have hD' : D.length ≤ 1048576 := by
    by_cases g : (D.length : Int) ≤ 1048576
    · omega
    · rw [if_neg g] at c2; omega
  have hA := toAlphabet_ev n D (by omega)
  have eA := eqAlphabet_ev n D (by omega)
  have tl1 := toInt64S_ev l1 (by omega)
  have el1 := eqInt64S_ev l1 (by omega)
  obtain ⟨r, hs, hi⟩ := both_ev n D l1
  refine Ev.bind hA ?_
  refine Ev.bind tl1 ?_
  refine Ev.bind hs ?_
  refine Ev.bind hA ?_
  refine Ev.bind tl1 ?_
  refine Ev.bind hi ?_
  refine Ev.pos rfl (Ev.pos rfl ?_)
  refine Ev.bind hA (Ev.bind eA (Ev.pos rfl ?_))
  refine Ev.bind tl1 (Ev.bind el1 (Ev.pos rfl ?_))
  exact Ev.now _
theorem pure : PureStmt := fun n D l1 _ hD _ hl1 _ => (law_ev n D l1 hD hl1).rounds
end Go.Proofs.YtcigmfmlgaiklaaDoor.LFnExactWidthOf
