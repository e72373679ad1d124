import Derived.Test.YthgapkbkhoeleaaDoorPAllx6
import Derived.Test.YthgapkbkhoeleaaDoorV0
import Derived.Test.YthgapkbkhoeleaaDoorV1
import Derived.Test.YthgapkbkhoeleaaDoorQBase
import Derived.Test.YthgapkbkhoeleaaDoorQMask
import Derived.Test.YthgapkbkhoeleaaDoorQMeet
import Derived.Test.YthgapkbkhoeleaaDoorQRev
import Derived.Test.YthgapkbkhoeleaaDoorQTrace
set_option linter.unusedVariables false
set_option linter.unusedSimpArgs false
namespace Go.Proofs.YthgapkbkhoeleaaDoor.PAll
open Go.RowKit Go.Proofs.YthgapkbkhoeleaaDoorW.PrintWords Go.Proofs.YthgapkbkhoeleaaDoorW.PrintMore Go.Proofs.YthgapkbkhoeleaaDoor.Q
theorem maskOf_l0 (n : Nat) (hn : n ≤ 24) : ∀ (suf pre : List Nat), (pre ++ suf).length ≤ 1000000 → (∀ x ∈ pre ++ suf, x < n) →
    Ev (fun k => impl_maskOf.l0 k ((mk n (fun a => decide (a ∈ pre)) : Nat) : Int) (ints (pre ++ suf)) ((pre ++ suf).length : Int) (pre.length : Int)) ((mk n (fun a => decide (a ∈ pre ++ suf)) : Nat) : Int) := by
  intro suf
  induction suf with
  | nil =>
    intro pre hl hw
    refine Ev.succ ?_
    simp only [impl_maskOf.l0]
    exact Ev.neg (by simp) (Ev.const (by simp))
  | cons x suf ih =>
    intro pre hl hw
    have hx : x < n := mem_mid hw
    have hl' : pre.length + suf.length + 1 ≤ 1000000 := by simpa [Nat.add_assoc] using hl
    have i1 := ih (pre ++ [x]) (by simpa using hl) (by simpa using hw)
    simp only [List.append_assoc, List.cons_append, List.nil_append] at i1
    rw [show (pre ++ [x]).length = pre.length + 1 by simp] at i1
    have h1 := mk_lt n (fun a => decide (a ∈ pre))
    have h4 : (2 : Nat) ^ n ≤ 2 ^ 24 := pow24 (by omega)
    have h5 : (2 : Nat) ^ x ≤ 2 ^ 24 := pow24 (by omega)
    have eb : mk n (fun a => decide (a ∈ pre ++ [x])) = mk n (fun a => decide (a ∈ pre)) ||| 2 ^ x := bits_ext fun i => by
      rw [Nat.testBit_or, testBit_mk, testBit_mk, testBit_one]
      by_cases hi : i < n
      · by_cases e : x = i
        · subst e; simp [hi]
        · simp [hi, e, show ¬ i = x from fun h => e h.symm]
      · simp [hi, show ¬ x = i by omega]
    rw [eb] at i1
    refine Ev.succ ?_
    simp only [impl_maskOf.l0]
    refine Ev.pos (by simp; omega) (Ev.pos (by omega) (Ev.pos (by simp; omega) ?_))
    rw [rd_mid, one_eq x (by omega)]
    refine Ev.some_bind ?_
    rw [b_or _ _ (by omega) (by omega), w64' (by omega)]
    exact i1
theorem maskOf_ev (n : Nat) (hn : n ≤ 24) (w : List Nat) (hl : w.length ≤ 1000000) (hw : ∀ x ∈ w, x < n) : Ev (fun k => impl_maskOf.f k (ints w)) ((mk n (fun a => decide (a ∈ w)) : Nat) : Int) := by
  simp only [impl_maskOf.f]
  have := maskOf_l0 n hn w [] hl hw
  have e1 : mk n (fun a => decide (a ∈ ([] : List Nat))) = 0 := Nat.eq_of_testBit_eq fun i => by rw [testBit_mk]; simp
  rw [e1] at this
  simpa using this
end Go.Proofs.YthgapkbkhoeleaaDoor.PAll
