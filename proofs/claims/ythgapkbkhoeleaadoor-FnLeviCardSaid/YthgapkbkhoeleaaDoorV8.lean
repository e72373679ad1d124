import Derived.Test.YthgapkbkhoeleaaDoorPAllx10
import Derived.Test.YthgapkbkhoeleaaDoorV0
import Derived.Test.YthgapkbkhoeleaaDoorV6
import Derived.Test.YthgapkbkhoeleaaDoorQBase
import Derived.Test.YthgapkbkhoeleaaDoorQMask
import Derived.Test.YthgapkbkhoeleaaDoorQMeet
import Derived.Test.YthgapkbkhoeleaaDoorQTrace
set_option linter.unusedVariables false
set_option linter.unusedSimpArgs false
namespace Go.Proofs.YthgapkbkhoeleaaDoor.PAll
open Go.RowKit Go.Proofs.YthgapkbkhoeleaaDoorW.PrintWords Go.Proofs.YthgapkbkhoeleaaDoorW.PrintMore Go.Proofs.YthgapkbkhoeleaaDoor.Q
theorem apart_ev (n : Nat) (hn : n ≤ 8) (f : Nat → Nat → Bool) (u v : List Nat) (hv : v.length ≤ 1000000) (hu : ∀ x ∈ u, x < n) (hw : ∀ x ∈ v, x < n) : Ev (fun k => impl_ties_apart.f k (mat n f) (ints u) (ints v)) (apartP f u v) := by
  simp only [impl_ties_apart.f]
  refine Ev.bind (maskOf_ev n (by omega) v hv hw) (Ev.const ?_)
  rw [if_pos]
  · congr 1
    rw [Bool.eq_iff_iff, apartP_iff, List.all_eq_true]
    have h4 := mk_lt n (fun a => decide (a ∈ v))
    have h5 : (2 : Nat) ^ n ≤ 2 ^ 24 := pow24 (by omega)
    have key : ∀ a, a < n → ((mk n (f a) &&& mk n (fun b => decide (b ∈ v))) = 0 ↔ ∀ b ∈ v, f a b = false) := fun a ha => by
      constructor
      · intro h b hb
        have := congrArg (fun m => m.testBit b) h
        simp only [Nat.testBit_and, testBit_mk, Nat.zero_testBit] at this
        simpa [hw b hb, hb] using this
      · intro h
        refine Nat.eq_of_testBit_eq fun b => ?_
        rw [Nat.testBit_and, testBit_mk, testBit_mk, Nat.zero_testBit]
        by_cases hb : b ∈ v
        · simp [h b hb]
        · simp [hb]
    constructor
    · intro h a ha
      have h6 := h (a : Int) (List.mem_map.2 ⟨a, ha, rfl⟩)
      have h7 := mk_lt n (f a)
      rw [rd_mat n f a (hu a ha), b_and _ _ (by omega) (by omega), decide_eq_true_eq] at h6
      exact (key a (hu a ha)).1 (by omega)
    · intro h x hx
      obtain ⟨a, ha, rfl⟩ := List.mem_map.1 hx
      have h7 := mk_lt n (f a)
      rw [rd_mat n f a (hu a ha), b_and _ _ (by omega) (by omega), decide_eq_true_eq, (key a (hu a ha)).2 (h a ha)]
      rfl
  · rw [List.all_eq_true]
    intro x hx
    obtain ⟨a, ha, rfl⟩ := List.mem_map.1 hx
    have := hu a ha
    simp; omega
end Go.Proofs.YthgapkbkhoeleaaDoor.PAll
