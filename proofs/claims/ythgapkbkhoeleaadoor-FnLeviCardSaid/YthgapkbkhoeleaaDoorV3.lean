import Derived.Test.YthgapkbkhoeleaaDoorPAllx2
import Derived.Test.YthgapkbkhoeleaaDoorPAllx3
import Derived.Test.YthgapkbkhoeleaaDoorV0
import Derived.Test.YthgapkbkhoeleaaDoorV1
import Derived.Test.YthgapkbkhoeleaaDoorV2
import Derived.Test.YthgapkbkhoeleaaDoorQBase
set_option linter.unusedVariables false
set_option linter.unusedSimpArgs false
namespace Go.Proofs.YthgapkbkhoeleaaDoor.PAll
open Go.RowKit Go.Proofs.YthgapkbkhoeleaaDoorW.PrintWords Go.Proofs.YthgapkbkhoeleaaDoorW.PrintMore Go.Proofs.YthgapkbkhoeleaaDoor.Q
theorem l03Code_ev (n : Int) (D u v : List Int) : Ev (fun k => spec_l03Code.f k n D u v) (if Alpha n D then (if Word n u ∧ Word n v then 0 else 2) else 1) := by
  simp only [spec_l03Code.f]
  refine Ev.bind (l02Is_ev n D) ?_
  simp only [decide_eq_true_eq]
  refine Ev.ite (fun c => ?_) (fun c => Ev.const (by rw [if_neg c]))
  rw [if_pos c]
  refine Ev.bind (l03Word_ev n c.1 u) ?_
  simp only [decide_eq_true_eq]
  refine Ev.ite (fun c1 => ?_) (fun c1 => Ev.const (by rw [if_neg fun h => c1 h.1]))
  refine Ev.bind (l03Word_ev n c.1 v) ?_
  simp only [decide_eq_true_eq]
  refine Ev.ite (fun c2 => Ev.const (by rw [if_pos ⟨c1, c2⟩])) (fun c2 => Ev.const (by rw [if_neg fun h => c2 h.2]))
end Go.Proofs.YthgapkbkhoeleaaDoor.PAll
