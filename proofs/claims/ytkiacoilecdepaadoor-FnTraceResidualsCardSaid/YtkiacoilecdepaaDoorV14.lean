import Derived.Test.YtkiacoilecdepaaDoorPAllx21
import Derived.Test.YtkiacoilecdepaaDoorPAllx4
import Derived.Test.YtkiacoilecdepaaDoorV0
import Derived.Test.YtkiacoilecdepaaDoorV1
import Derived.Test.YtkiacoilecdepaaDoorQBase
import Derived.Test.YtkiacoilecdepaaDoorQTrace
set_option linter.unusedVariables false
set_option linter.unusedSimpArgs false
namespace Go.Proofs.YtkiacoilecdepaaDoor.PAll
open Go.RowKit Go.Proofs.YtkiacoilecdepaaDoorW.PrintWords Go.Proofs.YtkiacoilecdepaaDoorW.PrintMore Go.Proofs.YtkiacoilecdepaaDoor.Q
theorem limited_ev (n : Nat) (hn : n ≤ 8) (f : Nat → Nat → Bool) (w : List Nat) (hl : w.length ≤ 1000000) (hw : ∀ x ∈ w, x < n) : Ev (fun k => impl_ties_limited.f k (mat n f) (ints w)) (if 24 < w.length then ([], 3) else (ints (normalP f n w), 0)) := by
  simp only [impl_ties_limited.f]
  refine Ev.ite (fun c => ?_) (fun c => ?_)
  · rw [if_pos (by simp at c; omega)]
    exact Ev.now _
  · rw [if_neg (by simp at c; omega)]
    exact Ev.bind (normal_ev n hn f w hl hw) (Ev.now _)
theorem Concatenate_ok {n : Nat} (hn : n ≤ 8) {f : Nat → Nat → Bool} (hA : Alpha (n : Int) (mat n f)) {u v : List Nat} (hl : u.length ≤ 24) (hu : ∀ x ∈ u, x < n) (hl2 : v.length ≤ 24) (hv : ∀ x ∈ v, x < n) :
    Ev (fun k => impl_Concatenate.f k (n : Int) (mat n f) (ints u) (ints v)) (if 24 < (u ++ v).length then ([], 3) else (ints (normalP f n (u ++ v)), 0)) := by
  simp only [impl_Concatenate.f, impl_Alphabet_ties.f, slices_Concat_int64_int64.f]
  refine Ev.bind (check_2 hA hl hu hl2 hv) (Ev.pos rfl (Ev.some_bind ?_))
  rw [if_pos (by simp; omega)]
  simp only [Option.bind_some, List.flatten_cons, List.flatten_nil, List.append_nil, ← ints_append]
  exact Ev.bind (limited_ev n hn f _ (by simp; omega) (mem_app hu hv)) (Ev.now _)
end Go.Proofs.YtkiacoilecdepaaDoor.PAll
