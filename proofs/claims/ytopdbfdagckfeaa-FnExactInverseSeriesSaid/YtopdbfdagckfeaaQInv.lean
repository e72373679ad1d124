import Derived.Test.YtopdbfdagckfeaaQBase
set_option linter.unusedVariables false
set_option linter.unusedSimpArgs false
/-! The inverse of a list of numbers, plainly. -/
namespace Go.Proofs.Ytopdbfdagckfeaa.Q
open Go.RowKit Go.Proofs.YtopdbfdagckfeaaW.PrintWords

/-- the sum of p_i q_(k - i) for i from 1 to m -/
def psum (p q : List Int) (k : Nat) : Nat → Int
  | 0 => 0
  | m + 1 => psum p q k m + rd p ((m + 1 : Nat) : Int) * rd q ((k - (m + 1) : Nat) : Int)
/-- the next element of the inverse, behind q -/
def nextInv (p q : List Int) : Int := - psum p q q.length (min q.length (p.length - 1))
def MC : Int := 1000000000000000
/-- d more elements, or the code of a limit -/
def invLoop (p : List Int) : Nat → List Int → List Int × Int
  | 0, q => (q, 0)
  | d + 1, q => if -MC ≤ nextInv p q ∧ nextInv p q ≤ MC then invLoop p d (q ++ [nextInv p q]) else ([], 3)

/-- every element lies in -B..B -/
def Bd (B : Int) (q : List Int) : Prop := ∀ i : Nat, -B ≤ rd q (i : Int) ∧ rd q (i : Int) ≤ B
theorem Bd.of_mem {B : Int} {q : List Int} (hB : 0 ≤ B) (h : ∀ x ∈ q, -B ≤ x ∧ x ≤ B) : Bd B q := fun i => by
  by_cases hi : i < q.length
  · rw [rd_lt q i hi]; exact h _ (List.getElem_mem hi)
  · rw [rd_nat, List.getD_eq_getElem?_getD, List.getElem?_eq_none (by omega)]; simp; omega
theorem Bd.snoc {B : Int} {q : List Int} {x : Int} (h : Bd B q) (hx : -B ≤ x ∧ x ≤ B) : Bd B (q ++ [x]) := fun i => by
  rw [rd_nat, List.getD_eq_getElem?_getD]
  rcases Nat.lt_trichotomy i q.length with hi | hi | hi
  · rw [List.getElem?_append_left hi]
    have := h i
    rwa [rd_nat, List.getD_eq_getElem?_getD] at this
  · subst hi
    simpa using hx
  · have := h i
    rw [rd_nat, List.getD_eq_getElem?_getD, List.getElem?_eq_none (by omega)] at this
    rw [List.getElem?_append_right (by omega), List.getElem?_eq_none (by simp; omega)]
    simpa using this
theorem invLoop_length (p : List Int) : ∀ (d : Nat) (q : List Int), (invLoop p d q).1.length ≤ q.length + d := by
  intro d
  induction d with
  | zero => intro q; simp [invLoop]
  | succ d ih =>
    intro q
    simp only [invLoop]
    split
    · have := ih (q ++ [nextInv p q])
      simp at this
      omega
    · simp
end Go.Proofs.Ytopdbfdagckfeaa.Q
