import Derived.Test.YtkiacoilecdepaaDoorPAllx20
import Derived.Test.YtkiacoilecdepaaDoorPAllx4
import Derived.Test.YtkiacoilecdepaaDoorV0
import Derived.Test.YtkiacoilecdepaaDoorV1
import Derived.Test.YtkiacoilecdepaaDoorV2
import Derived.Test.YtkiacoilecdepaaDoorQBase
import Derived.Test.YtkiacoilecdepaaDoorQMeet
import Derived.Test.YtkiacoilecdepaaDoorQTrace
set_option linter.unusedVariables false
set_option linter.unusedSimpArgs false
namespace Go.Proofs.YtkiacoilecdepaaDoor.PAll
open Go.RowKit Go.Proofs.YtkiacoilecdepaaDoorW.PrintWords Go.Proofs.YtkiacoilecdepaaDoorW.PrintMore Go.Proofs.YtkiacoilecdepaaDoor.Q
theorem LeftQuotient_ok {n : Nat} (hn : n ≤ 8) {f : Nat → Nat → Bool} (hA : Alpha (n : Int) (mat n f)) {u v r : List Nat} (hl : u.length ≤ 24) (hu : ∀ x ∈ u, x < n) (hl2 : v.length ≤ 24) (hv : ∀ x ∈ v, x < n) (h : cutP f u v = some r) :
    Ev (fun k => impl_LeftQuotient.f k (n : Int) (mat n f) (ints u) (ints v)) (ints (normalP f n r), 0) := by
  have hq := quotient_ev n hn f u v (by omega) (by omega) hu hv
  unfold cutR at hq
  rw [h] at hq
  have hr : ∀ x ∈ r, x < n := fun x hx => hv x (cutP_sub f h x hx)
  have hrl := cutP_length f h
  simp only [impl_LeftQuotient.f, impl_Alphabet_ties.f]
  exact Ev.bind (check_2 hA hl hu hl2 hv) (Ev.pos rfl (Ev.some_bind (Ev.bind hq (Ev.pos rfl (Ev.some_bind (Ev.bind (normal_ev n hn f r (by omega) hr) (Ev.now _)))))))
end Go.Proofs.YtkiacoilecdepaaDoor.PAll
