/- For every alphabet and word, FnExactIsPrimitive answers true: the program's IsPrimitive and the reference's come to the same, and leave their arguments alone. No condition. -/
import Derived.Test.YtfnnnopbcdiibaaDoorPAllx2
import Derived.Test.YtfnnnopbcdiibaaDoorPAllx28
import Derived.Test.YtfnnnopbcdiibaaDoorV0
import Derived.Test.YtfnnnopbcdiibaaDoorV1
import Derived.Test.YtfnnnopbcdiibaaDoorV12
import Derived.Test.YtfnnnopbcdiibaaDoorV2
import Derived.Test.YtfnnnopbcdiibaaDoorV4
import Derived.Test.YtfnnnopbcdiibaaDoorQBase
import Derived.Test.YtfnnnopbcdiibaaDoorQTrace
import Derived.Test.YtfnnnopbcdiibaaDoorStmtFnExactIsPrimitive
set_option linter.unusedVariables false
set_option linter.unusedSimpArgs false
namespace Go.Proofs.YtfnnnopbcdiibaaDoor.LFnExactIsPrimitive
open Go.RowKit Go.Proofs.YtfnnnopbcdiibaaDoorW.PrintWords Go.Proofs.YtfnnnopbcdiibaaDoorW.PrintMore Go.Proofs.YtfnnnopbcdiibaaDoor.Q
open Go.Proofs.YtfnnnopbcdiibaaDoor.PAll
theorem both_ev (n : Int) (D l1 : List Int) : ∃ r : Bool × Int, Ev (fun k => spec_IsPrimitive.f k n D l1) r ∧ Ev (fun k => impl_IsPrimitive.f k n D l1) r := by
  have hc := l03Code_ev n D l1 l1
  simp only [and_self] at hc
  have hk := checkWords_ev n D [l1]
  have e : (∀ x ∈ [l1], Word n x) ↔ Word n l1 := by simp
  simp only [e] at hk
  simp only [spec_IsPrimitive.f, impl_IsPrimitive.f, impl_Alphabet_ties.f]
  by_cases hA : Alpha n D
  · by_cases hW : Word n l1
    · rw [if_pos hA, if_pos hW] at hc hk
      obtain ⟨m, f, rfl, rfl, hm, hs, hr⟩ := hA.form
      obtain ⟨u, rfl, hul, hu⟩ := hW.form
      by_cases g : ((ints u).length : Int) = 0
      · exact ⟨(false, 0), Ev.bind hc (Ev.pos rfl (Ev.pos g (Ev.now _))), Ev.bind hk (Ev.pos rfl (Ev.pos g (Ev.now _)))⟩
      · exact ⟨((((rootK f m u u.length).2 : Int) == 1), 0), Ev.bind hc (Ev.pos rfl (Ev.neg g (Ev.bind (l07Root_ev (by omega) hul hu) (Ev.now _)))), Ev.bind hk (Ev.pos rfl (Ev.neg g (Ev.some_bind (Ev.bind (root_ev hm hs hul hu) (Ev.now _)))))⟩
    · rw [if_pos hA, if_neg hW] at hc hk
      exact ⟨(false, 2), Ev.bind hc (Ev.neg (by decide) (Ev.now _)), Ev.bind hk (Ev.neg (by decide) (Ev.now _))⟩
  · rw [if_neg hA] at hc hk
    exact ⟨(false, 1), Ev.bind hc (Ev.neg (by decide) (Ev.now _)), Ev.bind hk (Ev.neg (by decide) (Ev.now _))⟩
theorem law_ev (n : Int) (D : List Int) (l1 : List Int) (hD : D.length ≤ maxLen) (hl1 : l1.length ≤ maxLen) : Ev (fun k => laws_FnExactIsPrimitive.f k n D l1) true := by
  unfold maxLen at hD hl1
  simp only [laws_FnExactIsPrimitive.f]
  refine Ev.ite (fun c => Ev.now _) (fun cl1 => ?_)
  rw [szAlphabet_eq n D 1048576 (by omega) (by omega) hD]
  refine Ev.some_bind (Ev.ite (fun c2 => Ev.now _) (fun c2 => ?_))
  have hD' : D.length ≤ 1048576 := by
    by_cases g : (D.length : Int) ≤ 1048576
    · omega
    · rw [if_neg g] at c2; omega
  have hA := toAlphabet_ev n D (by omega)
  have eA := eqAlphabet_ev n D (by omega)
  have tl1 := toInt64S_ev l1 (by omega)
  have el1 := eqInt64S_ev l1 (by omega)
  obtain ⟨r, hs, hi⟩ := both_ev n D l1
  refine Ev.bind hA ?_
  refine Ev.bind tl1 ?_
  refine Ev.bind hs ?_
  refine Ev.bind hA ?_
  refine Ev.bind tl1 ?_
  refine Ev.bind hi ?_
  refine Ev.neg (by simp) (Ev.pos rfl ?_)
  refine Ev.bind hA (Ev.bind eA (Ev.pos rfl ?_))
  refine Ev.bind tl1 (Ev.bind el1 (Ev.pos rfl ?_))
  exact Ev.now _
theorem pure : PureStmt := fun n D l1 _ hD _ hl1 _ => (law_ev n D l1 hD hl1).elim fun K h => ⟨K, h K (Nat.le_refl K)⟩
end Go.Proofs.YtfnnnopbcdiibaaDoor.LFnExactIsPrimitive
