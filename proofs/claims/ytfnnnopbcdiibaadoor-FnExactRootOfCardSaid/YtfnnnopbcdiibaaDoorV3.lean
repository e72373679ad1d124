import Derived.Test.YtfnnnopbcdiibaaDoorPAllx3
import Derived.Test.YtfnnnopbcdiibaaDoorV0
import Derived.Test.YtfnnnopbcdiibaaDoorV1
import Derived.Test.YtfnnnopbcdiibaaDoorV2
import Derived.Test.YtfnnnopbcdiibaaDoorQBase
import Derived.Test.YtfnnnopbcdiibaaDoorQTrace
set_option linter.unusedVariables false
set_option linter.unusedSimpArgs false
namespace Go.Proofs.YtfnnnopbcdiibaaDoor.PAll
open Go.RowKit Go.Proofs.YtfnnnopbcdiibaaDoorW.PrintWords Go.Proofs.YtfnnnopbcdiibaaDoorW.PrintMore Go.Proofs.YtfnnnopbcdiibaaDoor.Q
theorem normal_l0 (n : Nat) (hn : n ≤ 8) (f : Nat → Nat → Bool) : ∀ (L : Nat) (w : List Nat) (acc : List Int), w.length = L → acc.length + w.length ≤ 1000000 → (∀ x ∈ w, x < n) →
    Ev (fun k => impl_ties_normal.l0 k (mat n f) acc (ints w)) (acc ++ ints (normalP f n w)) := by
  intro L
  induction L with
  | zero =>
    intro w acc hL hl hw
    obtain rfl := List.eq_nil_of_length_eq_zero hL
    refine Ev.succ ?_
    simp only [impl_ties_normal.l0]
    refine Ev.neg (by simp [ints]) (Ev.const ?_)
    simp [normalP_nil, ints]
  | succ L ih =>
    intro w acc hL hl hw
    have hne : w ≠ [] := by rintro rfl; simp at hL
    obtain ⟨h1, h2, h3⟩ := least_first f hw hne
    rw [normalP_cons f hw hne]
    have h4 := mk_lt n (isFirst f w)
    have h5 : (2 : Nat) ^ n ≤ 2 ^ 24 := pow24 (by omega)
    refine Ev.succ ?_
    simp only [impl_ties_normal.l0]
    refine Ev.pos (by simp; omega) (Ev.bind (firsts_ev n hn f w (by omega) hw) ?_)
    rw [least_eq _ (by omega), ctz_mk (by omega) ⟨_, h1, h2⟩]
    refine Ev.some_bind (Ev.pos (by omega) (Ev.bind (withoutFirst_ev w (by omega) _ (isFirst_mem f h2)) ?_))
    have he := length_erase f h2
    refine Ev.val (ih _ _ (by omega) (by simp; omega) (erase_lt hw)) ?_
    rw [ints_cons]
    simp
theorem normal_ev (n : Nat) (hn : n ≤ 8) (f : Nat → Nat → Bool) (w : List Nat) (hl : w.length ≤ 1000000) (hw : ∀ x ∈ w, x < n) : Ev (fun k => impl_ties_normal.f k (mat n f) (ints w)) (ints (normalP f n w)) := by
  simp only [impl_ties_normal.f]
  refine Ev.pos (by omega) (Ev.pos (by simp; omega) (Ev.val (normal_l0 n hn f _ w [] rfl (by simpa using hl) hw) (by simp)))
end Go.Proofs.YtfnnnopbcdiibaaDoor.PAll
