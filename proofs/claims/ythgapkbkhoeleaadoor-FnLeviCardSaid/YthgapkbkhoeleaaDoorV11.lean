import Derived.Test.YthgapkbkhoeleaaDoorPAllx15
import Derived.Test.YthgapkbkhoeleaaDoorQBase
import Derived.Test.YthgapkbkhoeleaaDoorQTrace
import Derived.Test.YthgapkbkhoeleaaDoorV0
set_option linter.unusedVariables false
set_option linter.unusedSimpArgs false
namespace Go.Proofs.YthgapkbkhoeleaaDoor.PAll
open Go.RowKit Go.Proofs.YthgapkbkhoeleaaDoorW.PrintWords Go.Proofs.YthgapkbkhoeleaaDoorW.PrintMore Go.Proofs.YthgapkbkhoeleaaDoor.Q
theorem likeInts_ev (x : List Int) (hx : x.length ≤ 17592186044416) : Ev (fun k => laws_likeInts.f k x x) true := by
  have loop : ∀ (d i : Nat), i + d = x.length → Ev (fun k => laws_likeInts.l0 k x x (i : Int)) true := by
    intro d
    induction d with
    | zero =>
      intro i hi
      refine Ev.succ ?_
      simp only [laws_likeInts.l0]
      exact Ev.neg (by omega) (Ev.now _)
    | succ d ih =>
      intro i hi
      refine Ev.succ ?_
      simp only [laws_likeInts.l0]
      refine Ev.pos (by omega) (Ev.pos (by omega) (Ev.pos (by omega) (Ev.pos trivial ?_)))
      rw [w64' (by omega)]
      exact ih (i + 1) (by omega)
  simp only [laws_likeInts.f]
  exact Ev.pos trivial (loop x.length 0 (by omega))
end Go.Proofs.YthgapkbkhoeleaaDoor.PAll
