import Derived.Test.YtfnnnopbcdiibaaDoorPAllx2
import Derived.Test.YtfnnnopbcdiibaaDoorPAllx4
import Derived.Test.YtfnnnopbcdiibaaDoorV0
import Derived.Test.YtfnnnopbcdiibaaDoorV1
import Derived.Test.YtfnnnopbcdiibaaDoorV2
import Derived.Test.YtfnnnopbcdiibaaDoorQBase
set_option linter.unusedVariables false
set_option linter.unusedSimpArgs false
namespace Go.Proofs.YtfnnnopbcdiibaaDoor.PAll
open Go.RowKit Go.Proofs.YtfnnnopbcdiibaaDoorW.PrintWords Go.Proofs.YtfnnnopbcdiibaaDoorW.PrintMore Go.Proofs.YtfnnnopbcdiibaaDoor.Q
theorem l03Code_ev (n : Int) (D u v : List Int) : Ev (fun k => spec_l03Code.f k n D u v) (if Alpha n D then (if Word n u ∧ Word n v then 0 else 2) else 1) := by
  simp only [spec_l03Code.f]
  refine Ev.bind (l02Is_ev n D) ?_
  simp only [decide_eq_true_eq]
  refine Ev.ite (fun c => ?_) (fun c => Ev.const (by rw [if_neg c]))
  rw [if_pos c]
  refine Ev.bind (l03Word_ev n c.1 u) ?_
  simp only [decide_eq_true_eq]
  refine Ev.ite (fun c1 => ?_) (fun c1 => Ev.const (by rw [if_neg fun h => c1 h.1]))
  refine Ev.bind (l03Word_ev n c.1 v) ?_
  simp only [decide_eq_true_eq]
  refine Ev.ite (fun c2 => Ev.const (by rw [if_pos ⟨c1, c2⟩])) (fun c2 => Ev.const (by rw [if_neg fun h => c2 h.2]))
end Go.Proofs.YtfnnnopbcdiibaaDoor.PAll
