import Derived.Test.YtemdfjdmokbcoaaDoorQBase
set_option linter.unusedVariables false
set_option linter.unusedSimpArgs false
/-! The inverse of a list of numbers, plainly. -/
namespace Go.Proofs.YtemdfjdmokbcoaaDoor.Q
open Go.RowKit Go.Proofs.YtemdfjdmokbcoaaDoorW.PrintWords

/-- the sum of p_i q_(k - i) for i from 1 to m -/
def psum (p q : List Int) (k : Nat) : Nat → Int
  | 0 => 0
  | m + 1 => psum p q k m + rd p ((m + 1 : Nat) : Int) * rd q ((k - (m + 1) : Nat) : Int)
/-- the next element of the inverse, behind q -/
def nextInv (p q : List Int) : Int := - psum p q q.length (min q.length (p.length - 1))
def MC : Int := 1000000000000000
/-- d more elements, or the code of a limit -/
def invLoop (p : List Int) : Nat → List Int → List Int × Int
  | 0, q => (q, 0)
  | d + 1, q => if -MC ≤ nextInv p q ∧ nextInv p q ≤ MC then invLoop p d (q ++ [nextInv p q]) else ([], 3)

/-- every element lies in -B..B -/
def Bd (B : Int) (q : List Int) : Prop := ∀ i : Nat, -B ≤ rd q (i : Int) ∧ rd q (i : Int) ≤ B
theorem Bd.of_mem {B : Int} {q : List Int} (hB : 0 ≤ B) (h : ∀ x ∈ q, -B ≤ x ∧ x ≤ B) : Bd B q := fun i => by
  by_cases hi : i < q.length
  · rw [rd_lt q i hi]; exact h _ (List.getElem_mem hi)
  · rw [rd_nat, List.getD_eq_getElem?_getD, List.getElem?_eq_none (by omega)]; simp; omega
theorem Bd.snoc {B : Int} {q : List Int} {x : Int} (h : Bd B q) (hx : -B ≤ x ∧ x ≤ B) : Bd B (q ++ [x]) := fun i => by
  rw [rd_nat, List.getD_eq_getElem?_getD]
  rcases Nat.lt_trichotomy i q.length with hi | hi | hi
  · rw [List.getElem?_append_left hi]
    have := h i
    rwa [rd_nat, List.getD_eq_getElem?_getD] at this
  · subst hi
    simpa using hx
  · have := h i
    rw [rd_nat, List.getD_eq_getElem?_getD, List.getElem?_eq_none (by omega)] at this
    rw [List.getElem?_append_right (by omega), List.getElem?_eq_none (by simp; omega)]
    simpa using this
theorem invLoop_length (p : List Int) : ∀ (d : Nat) (q : List Int), (invLoop p d q).1.length ≤ q.length + d := by
  intro d
  induction d with
  | zero => intro q; simp [invLoop]
  | succ d ih =>
    intro q
    simp only [invLoop]
    split
    · have := ih (q ++ [nextInv p q])
      simp at this
      omega
    · simp
theorem rd_snoc_lt (q : List Int) (x : Int) (i : Nat) (h : i < q.length) : rd (q ++ [x]) (i : Int) = rd q (i : Int) := by
  rw [rd_nat, rd_nat, List.getD_eq_getElem?_getD, List.getD_eq_getElem?_getD, List.getElem?_append_left h]
theorem rd_snoc_eq (q : List Int) (x : Int) : rd (q ++ [x]) (q.length : Int) = x := by
  rw [rd_nat, List.getD_eq_getElem?_getD, List.getElem?_append_right (Nat.le_refl _)]
  simp
theorem psum_congr (p q q' : List Int) (k : Nat) (hk : 1 ≤ k) (h : ∀ i : Nat, i < k → rd q (i : Int) = rd q' (i : Int)) : ∀ m, psum p q k m = psum p q' k m := by
  intro m
  induction m with
  | zero => rfl
  | succ m ih => simp only [psum]; rw [ih, h _ (by omega)]
/-- q is the beginning of the inverse of p -/
def InvOf (p q : List Int) : Prop := 1 ≤ q.length ∧ rd q ((0 : Nat) : Int) = 1 ∧ Bd MC q ∧ ∀ i : Nat, 1 ≤ i → i < q.length → rd q (i : Int) = - psum p q i (min i (p.length - 1))
theorem InvOf.snoc {p q : List Int} (h : InvOf p q) (hb : -MC ≤ nextInv p q ∧ nextInv p q ≤ MC) : InvOf p (q ++ [nextInv p q]) := by
  obtain ⟨h1, h2, h3, h4⟩ := h
  refine ⟨by simp, by rw [rd_snoc_lt q _ 0 (by omega)]; exact h2, h3.snoc hb, fun i hi hl => ?_⟩
  have hc : ∀ j : Nat, j < i → rd (q ++ [nextInv p q]) (j : Int) = rd q (j : Int) := fun j hj => rd_snoc_lt q _ j (by simp at hl; omega)
  rw [psum_congr p _ q i hi hc]
  by_cases e : i < q.length
  · rw [rd_snoc_lt q _ i e]; exact h4 i hi e
  · obtain rfl : i = q.length := by simp at hl; omega
    rw [rd_snoc_eq]
    rfl
theorem invLoop_inv (p : List Int) : ∀ (d : Nat) (q : List Int), InvOf p q → (invLoop p d q).2 = 0 → InvOf p (invLoop p d q).1 ∧ (invLoop p d q).1.length = q.length + d := by
  intro d
  induction d with
  | zero => intro q h _; exact ⟨h, rfl⟩
  | succ d ih =>
    intro q h hc
    simp only [invLoop] at hc ⊢
    by_cases hb : -MC ≤ nextInv p q ∧ nextInv p q ≤ MC
    · rw [if_pos hb] at hc ⊢
      obtain ⟨h1, h2⟩ := ih _ (h.snoc hb) hc
      exact ⟨h1, by rw [h2]; simp; omega⟩
    · rw [if_neg hb] at hc
      cases hc
/-- the sum of p_t q_(i - t) for t below j -/
def tsum (p q : List Int) (i : Nat) : Nat → Int
  | 0 => 0
  | j + 1 => tsum p q i j + rd p (j : Int) * rd q ((i - j : Nat) : Int)
theorem tsum_psum (p q : List Int) (i : Nat) (hp : rd p ((0 : Nat) : Int) = 1) : ∀ j, tsum p q i (j + 1) = rd q (i : Int) + psum p q i j := by
  intro j
  induction j with
  | zero => simp only [tsum, psum, hp, Nat.sub_zero]; omega
  | succ j ih => rw [tsum, ih, psum]; omega
theorem InvOf.tsum {p q : List Int} (h : InvOf p q) (hp : rd p ((0 : Nat) : Int) = 1) (i : Nat) (hi : 1 ≤ i) (hl : i < q.length) : tsum p q i (min i (p.length - 1) + 1) = 0 := by
  rw [tsum_psum p q i hp, h.2.2.2 i hi hl]
  omega
end Go.Proofs.YtemdfjdmokbcoaaDoor.Q
