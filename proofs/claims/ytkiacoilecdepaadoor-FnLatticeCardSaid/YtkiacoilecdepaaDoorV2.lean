import Derived.Test.YtkiacoilecdepaaDoorPAllx5
import Derived.Test.YtkiacoilecdepaaDoorV0
import Derived.Test.YtkiacoilecdepaaDoorV1
import Derived.Test.YtkiacoilecdepaaDoorQBase
import Derived.Test.YtkiacoilecdepaaDoorQMeet
import Derived.Test.YtkiacoilecdepaaDoorQTrace
set_option linter.unusedVariables false
set_option linter.unusedSimpArgs false
namespace Go.Proofs.YtkiacoilecdepaaDoor.PAll
open Go.RowKit Go.Proofs.YtkiacoilecdepaaDoorW.PrintWords Go.Proofs.YtkiacoilecdepaaDoorW.PrintMore Go.Proofs.YtkiacoilecdepaaDoor.Q
theorem quotient_l0 (n : Nat) (hn : n ≤ 8) (f : Nat → Nat → Bool) : ∀ (u pre v : List Nat), (pre ++ u).length ≤ 1000000 → v.length ≤ 1000000 → (∀ x ∈ u, x < n) → (∀ x ∈ v, x < n) →
  Ev (fun k => impl_ties_quotient.l0 k (mat n f) (ints v) (ints (pre ++ u)) ((pre ++ u).length : Int) (pre.length : Int)) (cutR f u v) := by
 intro u
 induction u with
 | nil =>
  intro pre v hl hv hu hw
  refine Ev.succ ?_
  simp only [impl_ties_quotient.l0]
  exact Ev.neg (by simp) (Ev.const rfl)
 | cons a u ih =>
  intro pre v hl hv hu hw
  have hl' : pre.length + u.length + 1 ≤ 1000000 := by simpa [Nat.add_assoc] using hl
  have ha : a < n := hu a (by simp)
  have h4 := mk_lt n (isFirst f v)
  have h5 : (2 : Nat) ^ n ≤ 2 ^ 24 := pow24 (by omega)
  refine Ev.succ ?_
  simp only [impl_ties_quotient.l0]
  refine Ev.pos (by simp; omega) (Ev.pos (by omega) (Ev.pos (by simp; omega) (Ev.bind (firsts_ev n hn f v hv hw) ?_)))
  rw [rd_mid, has_eq _ a (by omega) (by omega), testBit_mk]
  refine Ev.some_bind ?_
  by_cases h : isFirst f v a = true
  ·refine Ev.pos (by simp [ha, h]) (Ev.bind (withoutFirst_ev v hv a (isFirst_mem f h)) ?_)
   rw [w64' (by omega)]
   have := ih (pre ++ [a]) (v.erase a) (by simpa using hl) (by have := length_erase f h; omega) (fun x hx => hu x (by simp [hx])) (erase_lt hw)
   simp only [List.append_assoc, List.cons_append, List.nil_append] at this
   rw [show (pre ++ [a]).length = pre.length + 1 by simp] at this
   refine Ev.val this ?_
   unfold cutR
   rw [cutP_cons, if_pos h]
  ·refine Ev.neg (by simp [h]) (Ev.const ?_)
   unfold cutR
   rw [cutP_cons, if_neg h]
theorem quotient_ev (n : Nat) (hn : n ≤ 8) (f : Nat → Nat → Bool) (u v : List Nat) (hl : u.length ≤ 1000000) (hv : v.length ≤ 1000000) (hu : ∀ x ∈ u, x < n) (hw : ∀ x ∈ v, x < n) : Ev (fun k => impl_ties_quotient.f k (mat n f) (ints u) (ints v)) (cutR f u v) := by
 simp only [impl_ties_quotient.f]
 have := quotient_l0 n hn f u [] v hl hv hu hw
 simpa using this
end Go.Proofs.YtkiacoilecdepaaDoor.PAll
