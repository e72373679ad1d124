import Derived.Test.YtkiacoilecdepaaDoorPAllx7
import Derived.Test.YtkiacoilecdepaaDoorV0
import Derived.Test.YtkiacoilecdepaaDoorV1
import Derived.Test.YtkiacoilecdepaaDoorQBase
import Derived.Test.YtkiacoilecdepaaDoorQTrace
set_option linter.unusedVariables false
set_option linter.unusedSimpArgs false
namespace Go.Proofs.YtkiacoilecdepaaDoor.PAll
open Go.RowKit Go.Proofs.YtkiacoilecdepaaDoorW.PrintWords Go.Proofs.YtkiacoilecdepaaDoorW.PrintMore Go.Proofs.YtkiacoilecdepaaDoor.Q
theorem l03Is_ev (n : Int) (D w : List Int) : Ev (fun k => spec_l03Is.f k n D w) (decide (Alpha n D ∧ Word n w)) := by
 have hi := l02Is_ev n D
 simp only [spec_l03Is.f]
 by_cases hA : Alpha n D
 ·rw [decide_eq_true hA] at hi
  obtain ⟨m, f, rfl, rfl, hm, hs, hr⟩ := hA.form
  have hw := l03Word_ev (m : Int) (by omega) w
  rw [show decide (Alpha (m : Int) (mat m f) ∧ Word (m : Int) w) = decide (Word (m : Int) w) from by simp [hA]]
  exact Ev.bind hi (Ev.pos rfl (Ev.bind hw (Ev.now _)))
 ·rw [decide_eq_false hA] at hi
  rw [show decide (Alpha n D ∧ Word n w) = false from by simp [hA]]
  exact Ev.bind hi (Ev.neg (by decide) (Ev.now _))
end Go.Proofs.YtkiacoilecdepaaDoor.PAll
