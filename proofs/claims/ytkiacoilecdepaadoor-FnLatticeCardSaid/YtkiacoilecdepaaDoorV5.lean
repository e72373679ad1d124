import Derived.Test.YtkiacoilecdepaaDoorPAllx4
import Derived.Test.YtkiacoilecdepaaDoorPAllx8
import Derived.Test.YtkiacoilecdepaaDoorV0
import Derived.Test.YtkiacoilecdepaaDoorV1
import Derived.Test.YtkiacoilecdepaaDoorV2
import Derived.Test.YtkiacoilecdepaaDoorQBase
import Derived.Test.YtkiacoilecdepaaDoorQTrace
set_option linter.unusedVariables false
set_option linter.unusedSimpArgs false
namespace Go.Proofs.YtkiacoilecdepaaDoor.PAll
open Go.RowKit Go.Proofs.YtkiacoilecdepaaDoorW.PrintWords Go.Proofs.YtkiacoilecdepaaDoorW.PrintMore Go.Proofs.YtkiacoilecdepaaDoor.Q
theorem IsPrefix_ok {n : Nat} (hn : n ≤ 8) {f : Nat → Nat → Bool} (hA : Alpha (n : Int) (mat n f)) {u v : List Nat} (hl : u.length ≤ 24) (hu : ∀ x ∈ u, x < n) (hl2 : v.length ≤ 24) (hv : ∀ x ∈ v, x < n) :
  Ev (fun k => impl_IsPrefix.f k (n : Int) (mat n f) (ints u) (ints v)) ((cutP f u v).isSome, 0) := by
 have hq := quotient_ev n hn f u v (by omega) (by omega) hu hv
 have e : (cutR f u v).2 = (cutP f u v).isSome := by
  unfold cutR
  cases cutP f u v <;> rfl
 simp only [impl_IsPrefix.f, impl_Alphabet_ties.f]
 rw [← e]
 exact Ev.bind (check_2 hA hl hu hl2 hv) (Ev.pos rfl (Ev.some_bind (Ev.bind hq (Ev.now _))))
end Go.Proofs.YtkiacoilecdepaaDoor.PAll
