/- For every alphabet and word, FnExactRootOf answers true: the program's RootOf and the reference's come to the same, and leave their arguments alone. No condition. -/
import Derived.Test.YtfnnnopbcdiibaaDoorPAllx2
import Derived.Test.YtfnnnopbcdiibaaDoorPAllx33
import Derived.Test.YtfnnnopbcdiibaaDoorPAllx4
import Derived.Test.YtfnnnopbcdiibaaDoorV0
import Derived.Test.YtfnnnopbcdiibaaDoorV1
import Derived.Test.YtfnnnopbcdiibaaDoorV12
import Derived.Test.YtfnnnopbcdiibaaDoorV2
import Derived.Test.YtfnnnopbcdiibaaDoorV4
import Derived.Test.YtfnnnopbcdiibaaDoorV5
import Derived.Test.YtfnnnopbcdiibaaDoorQBase
import Derived.Test.YtfnnnopbcdiibaaDoorQMeet
import Derived.Test.YtfnnnopbcdiibaaDoorQOrder
import Derived.Test.YtfnnnopbcdiibaaDoorQTrace
import Derived.Test.YtfnnnopbcdiibaaDoorStmtFnExactRootOf
set_option linter.unusedVariables false
set_option linter.unusedSimpArgs false
namespace Go.Proofs.YtfnnnopbcdiibaaDoor.LFnExactRootOf
open Go.RowKit Go.Proofs.YtfnnnopbcdiibaaDoorW.PrintWords Go.Proofs.YtfnnnopbcdiibaaDoorW.PrintMore Go.Proofs.YtfnnnopbcdiibaaDoor.Q
open Go.Proofs.YtfnnnopbcdiibaaDoor.PAll
theorem both_ev (n : Int) (D l1 : List Int) : ∃ r : List Int × Int × Int, r.1.length ≤ 100000 ∧ Ev (fun k => spec_RootOf.f k n D l1) r ∧ Ev (fun k => impl_RootOf.f k n D l1) r := by
  have hc := l03Code_ev n D l1 l1
  simp only [and_self] at hc
  have hk := checkWords_ev n D [l1]
  have e : (∀ x ∈ [l1], Word n x) ↔ Word n l1 := by simp
  simp only [e] at hk
  have bad : ∀ c : Int, c ≠ 0 → Ev (fun k => spec_l03Code.f k n D l1 l1) c → Ev (fun k => spec_RootOf.f k n D l1) ([], 0, c) := fun c h0 h => by
    simp only [spec_RootOf.f]
    refine Ev.bind h (Ev.neg h0 (Ev.succ ?_))
    simp only [spec_RootOf.j0]
    exact Ev.neg (by decide) (Ev.neg h0 (Ev.now _))
  by_cases hA : Alpha n D
  · by_cases hW : Word n l1
    · rw [if_pos hA, if_pos hW] at hc hk
      obtain ⟨m, f, rfl, rfl, hm, hs, hr⟩ := hA.form
      obtain ⟨u, rfl, hul, hu⟩ := hW.form
      by_cases g : ((ints u).length : Int) = 0
      · refine ⟨([], 0, 5), by simp, ?_, ?_⟩
        · simp only [spec_RootOf.f]
          refine Ev.bind hc (Ev.pos rfl (Ev.succ ?_))
          simp only [spec_RootOf.j0]
          exact Ev.pos (by rw [beq_iff_eq]; exact g) (Ev.now _)
        · simp only [impl_RootOf.f]
          exact Ev.bind hk (Ev.pos rfl (Ev.pos g (Ev.now _)))
      · have ok := rootK_ok hs hu u.length
        refine ⟨(ints (rootK f m u u.length).1, ((rootK f m u u.length).2 : Int), 0), by rw [ints_length]; omega, ?_, ?_⟩
        · simp only [spec_RootOf.f]
          refine Ev.bind hc (Ev.pos rfl (Ev.succ ?_))
          simp only [spec_RootOf.j0]
          exact Ev.neg (by rw [beq_iff_eq]; exact g) (Ev.pos (by first | trivial | rfl) (Ev.bind (l07Root_ev (by omega) hul hu) (Ev.now _)))
        · simp only [impl_RootOf.f, impl_Alphabet_ties.f]
          exact Ev.bind hk (Ev.pos rfl (Ev.neg g (Ev.some_bind (Ev.bind (root_ev hm hs hul hu) (Ev.now _)))))
    · rw [if_pos hA, if_neg hW] at hc hk
      refine ⟨([], 0, 2), by simp, bad 2 (by decide) hc, ?_⟩
      simp only [impl_RootOf.f]
      exact Ev.bind hk (Ev.neg (by decide) (Ev.now _))
  · rw [if_neg hA] at hc hk
    refine ⟨([], 0, 1), by simp, bad 1 (by decide) hc, ?_⟩
    simp only [impl_RootOf.f]
    exact Ev.bind hk (Ev.neg (by decide) (Ev.now _))
theorem law_ev (n : Int) (D : List Int) (l1 : List Int) (hD : D.length ≤ maxLen) (hl1 : l1.length ≤ maxLen) : Ev (fun k => laws_FnExactRootOf.f k n D l1) true := by
  unfold maxLen at hD hl1
  simp only [laws_FnExactRootOf.f]
  refine Ev.ite (fun c => Ev.now _) (fun cl1 => ?_)
  rw [szAlphabet_eq n D 1048576 (by omega) (by omega) hD]
  refine Ev.some_bind (Ev.ite (fun c2 => Ev.now _) (fun c2 => ?_))
  have hD' : D.length ≤ 1048576 := by
    by_cases g : (D.length : Int) ≤ 1048576
    · omega
    · rw [if_neg g] at c2; omega
  have hA := toAlphabet_ev n D (by omega)
  have eA := eqAlphabet_ev n D (by omega)
  have tl1 := toInt64S_ev l1 (by omega)
  have el1 := eqInt64S_ev l1 (by omega)
  obtain ⟨r, hr, hs, hi⟩ := both_ev n D l1
  have er := eqInt64S_ev r.1 (by omega)
  have mA := markAlphabet_ev n D 1 (by omega) (by omega) (by omega)
  have ml1 := markInt64S_ev l1 (1 + (D.length : Int)) (by omega) (by omega) (by omega)
  have mr := markInt64S_ev r.1 1 (by omega) (by omega) (by omega)
  have he := heldInt64S_ev r.1 1 (by omega) (by omega)
  refine Ev.bind hA ?_
  refine Ev.bind tl1 ?_
  refine Ev.bind hs ?_
  refine Ev.bind hA ?_
  refine Ev.bind tl1 ?_
  refine Ev.bind hi ?_
  refine Ev.bind er (Ev.pos rfl (Ev.pos rfl (Ev.pos rfl ?_)))
  refine Ev.bind hA (Ev.bind eA (Ev.pos rfl ?_))
  refine Ev.bind tl1 (Ev.bind el1 (Ev.pos rfl ?_))
  refine Ev.bind mA ?_
  refine Ev.bind ml1 ?_
  refine Ev.neg (by simp only []; omega) ?_
  refine Ev.bind er (Ev.pos rfl ?_)
  refine Ev.bind mr (Ev.bind he (Ev.neg (by omega) (Ev.pos rfl ?_)))
  refine Ev.bind hA ?_
  refine Ev.bind tl1 ?_
  refine Ev.bind hi (Ev.bind er (Ev.pos rfl (Ev.pos rfl (Ev.pos rfl ?_))))
  exact Ev.bind he (Ev.neg (by omega) (Ev.pos rfl (Ev.now _)))
theorem pure : PureStmt := fun n D l1 _ hD _ hl1 _ => (law_ev n D l1 hD hl1).elim fun K h => ⟨K, h K (Nat.le_refl K)⟩
end Go.Proofs.YtfnnnopbcdiibaaDoor.LFnExactRootOf
