import Derived.Test.YtkiacoilecdepaaDoorPAllx4
import Derived.Test.YtkiacoilecdepaaDoorPAllx6
import Derived.Test.YtkiacoilecdepaaDoorV0
import Derived.Test.YtkiacoilecdepaaDoorV1
import Derived.Test.YtkiacoilecdepaaDoorQBase
import Derived.Test.YtkiacoilecdepaaDoorQTrace
set_option linter.unusedVariables false
set_option linter.unusedSimpArgs false
namespace Go.Proofs.YtkiacoilecdepaaDoor.PAll
open Go.RowKit Go.Proofs.YtkiacoilecdepaaDoorW.PrintWords Go.Proofs.YtkiacoilecdepaaDoorW.PrintMore Go.Proofs.YtkiacoilecdepaaDoor.Q
theorem FirstLetters_ok {n : Nat} (hn : n ≤ 8) {f : Nat → Nat → Bool} (hA : Alpha (n : Int) (mat n f)) {u : List Nat} (hl : u.length ≤ 24) (hu : ∀ x ∈ u, x < n) : Ev (fun k => impl_FirstLetters.f k (n : Int) (mat n f) (ints u)) (((mk n (isFirst f u) : Nat) : Int), 0) := by
  simp only [impl_FirstLetters.f, impl_Alphabet_ties.f]
  exact Ev.bind (check_1 hA hl hu) (Ev.pos rfl (Ev.some_bind (Ev.bind (firsts_ev n hn f u (by omega) hu) (Ev.now _))))
end Go.Proofs.YtkiacoilecdepaaDoor.PAll
