import Derived.Test.YtfnnnopbcdiibaaDoorPAllx16
import Derived.Test.YtfnnnopbcdiibaaDoorV3
import Derived.Test.YtfnnnopbcdiibaaDoorQBase
import Derived.Test.YtfnnnopbcdiibaaDoorQTrace
import Derived.Test.YtfnnnopbcdiibaaDoorV0
set_option linter.unusedVariables false
set_option linter.unusedSimpArgs false
namespace Go.Proofs.YtfnnnopbcdiibaaDoor.PAll
open Go.RowKit Go.Proofs.YtfnnnopbcdiibaaDoorW.PrintWords Go.Proofs.YtfnnnopbcdiibaaDoorW.PrintMore Go.Proofs.YtfnnnopbcdiibaaDoor.Q
theorem limited_ev (n : Nat) (hn : n ≤ 8) (f : Nat → Nat → Bool) (w : List Nat) (hl : w.length ≤ 1000000) (hw : ∀ x ∈ w, x < n) : Ev (fun k => impl_ties_limited.f k (mat n f) (ints w)) (if 24 < w.length then ([], 3) else (ints (normalP f n w), 0)) := by
  simp only [impl_ties_limited.f]
  refine Ev.ite (fun c => ?_) (fun c => ?_)
  · rw [if_pos (by simp at c; omega)]
    exact Ev.now _
  · rw [if_neg (by simp at c; omega)]
    exact Ev.bind (normal_ev n hn f w hl hw) (Ev.now _)
end Go.Proofs.YtfnnnopbcdiibaaDoor.PAll
