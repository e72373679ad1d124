/- For every alphabet, FnExactCliquePolynomial answers true: the program's CliquePolynomial and the reference's come to the same, and leave their argument alone. No condition. -/
import Derived.Test.YtfnnnopbcdiibaaDoorPAllx24
import Derived.Test.YtfnnnopbcdiibaaDoorV0
import Derived.Test.YtfnnnopbcdiibaaDoorV1
import Derived.Test.YtfnnnopbcdiibaaDoorV14
import Derived.Test.YtfnnnopbcdiibaaDoorV5
import Derived.Test.YtfnnnopbcdiibaaDoorV7
import Derived.Test.YtfnnnopbcdiibaaDoorQBase
import Derived.Test.YtfnnnopbcdiibaaDoorQDraw
import Derived.Test.YtfnnnopbcdiibaaDoorQTrace
import Derived.Test.YtfnnnopbcdiibaaDoorStmtFnExactCliquePolynomial
set_option linter.unusedVariables false
set_option linter.unusedSimpArgs false
namespace Go.Proofs.YtfnnnopbcdiibaaDoor.LFnExactCliquePolynomial
open Go.RowKit Go.Proofs.YtfnnnopbcdiibaaDoorW.PrintWords Go.Proofs.YtfnnnopbcdiibaaDoorW.PrintMore Go.Proofs.YtfnnnopbcdiibaaDoor.Q
open Go.Proofs.YtfnnnopbcdiibaaDoor.PAll
theorem both_ev (n : Int) (D : List Int) : ∃ r : List Int × Int, r.1.length ≤ 100000 ∧ Ev (fun k => spec_CliquePolynomial.f k n D) r ∧ Ev (fun k => impl_CliquePolynomial.f k n D) r := by
  have hc := l02Is_ev n D
  have hk := IsAlphabet_ev n D
  by_cases hA : Alpha n D
  · rw [decide_eq_true hA] at hc hk
    obtain ⟨m, f, rfl, rfl, hm, hs, hr⟩ := hA.form
    have h8 : (2 : Nat) ^ m ≤ 2 ^ 8 := Nat.pow_le_pow_right (by decide) hm
    have hl := cliqueP_length (stepsP m f) (fun x hx => by have := List.mem_range.1 (List.mem_filter.1 hx).1; omega)
    refine ⟨(cliqueP (stepsP m f), 0), by simp only []; omega, ?_, ?_⟩
    · simp only [spec_CliquePolynomial.f]
      exact Ev.bind hc (Ev.pos rfl (Ev.bind (l06Clique_ev m hm f) (Ev.now _)))
    · simp only [impl_CliquePolynomial.f]
      exact Ev.bind hk (Ev.pos rfl (Ev.bind (poly_ev m hm f hs hr).1 (Ev.now _)))
  · rw [decide_eq_false hA] at hc hk
    refine ⟨([], 1), by simp, ?_, ?_⟩
    · simp only [spec_CliquePolynomial.f]
      exact Ev.bind hc (Ev.neg (by decide) (Ev.now _))
    · simp only [impl_CliquePolynomial.f]
      exact Ev.bind hk (Ev.neg (by decide) (Ev.now _))
theorem law_ev (n : Int) (D : List Int) (hD : D.length ≤ maxLen) : Ev (fun k => laws_FnExactCliquePolynomial.f k n D) true := by
  unfold maxLen at hD
  simp only [laws_FnExactCliquePolynomial.f]
  rw [szAlphabet_eq n D 1048576 (by omega) (by omega) hD]
  refine Ev.some_bind (Ev.ite (fun c2 => Ev.now _) (fun c2 => ?_))
  have hD' : D.length ≤ 1048576 := by
    by_cases g : (D.length : Int) ≤ 1048576
    · omega
    · rw [if_neg g] at c2; omega
  have hA := toAlphabet_ev n D (by omega)
  have eA := eqAlphabet_ev n D (by omega)
  obtain ⟨r, hr, hs, hi⟩ := both_ev n D
  have er := eqInt64S_ev r.1 (by omega)
  have mA := markAlphabet_ev n D 1 (by omega) (by omega) (by omega)
  have mr := markInt64S_ev r.1 1 (by omega) (by omega) (by omega)
  have he := heldInt64S_ev r.1 1 (by omega) (by omega)
  refine Ev.bind hA ?_
  refine Ev.bind hs ?_
  refine Ev.bind hA ?_
  refine Ev.bind hi ?_
  refine Ev.bind er (Ev.pos rfl (Ev.pos rfl ?_))
  refine Ev.bind hA (Ev.bind eA (Ev.pos rfl ?_))
  refine Ev.bind mA ?_
  refine Ev.neg (by simp only []; omega) ?_
  refine Ev.bind er (Ev.pos rfl ?_)
  refine Ev.bind mr (Ev.bind he (Ev.neg (by omega) (Ev.pos rfl ?_)))
  refine Ev.bind hA ?_
  refine Ev.bind hi (Ev.bind er (Ev.pos rfl (Ev.pos rfl ?_)))
  exact Ev.bind he (Ev.neg (by omega) (Ev.pos rfl (Ev.now _)))
theorem pure : PureStmt := fun n D _ hD _ => (law_ev n D hD).elim fun K h => ⟨K, h K (Nat.le_refl K)⟩
end Go.Proofs.YtfnnnopbcdiibaaDoor.LFnExactCliquePolynomial
