import Derived.Test.YtfnnnopbcdiibaaDoorQBase
import Derived.Test.YtfnnnopbcdiibaaDoorQFoata
import Derived.Test.YtfnnnopbcdiibaaDoorQMap
import Derived.Test.YtfnnnopbcdiibaaDoorQMask
import Derived.Test.YtfnnnopbcdiibaaDoorQMeet
import Derived.Test.YtfnnnopbcdiibaaDoorQOrder
import Derived.Test.YtfnnnopbcdiibaaDoorQRev
import Derived.Test.YtfnnnopbcdiibaaDoorQTab
import Derived.Test.YtfnnnopbcdiibaaDoorQTrace
set_option linter.unusedVariables false
set_option linter.unusedSimpArgs false
namespace Go.Proofs.YtfnnnopbcdiibaaDoor.PAll
open Go.RowKit Go.Proofs.YtfnnnopbcdiibaaDoorW.PrintWords Go.Proofs.YtfnnnopbcdiibaaDoorW.PrintMore Go.Proofs.YtfnnnopbcdiibaaDoor.Q
/-- from place i on: the numbers c, c + 1, .. -/
def marks (x : List Int) (i : Nat) (c : Int) : List Int := x.take i ++ (List.range (x.length - i)).map fun (j : Nat) => c + (j : Int)
theorem marks_length (x : List Int) (i : Nat) (c : Int) (h : i ≤ x.length) : (marks x i c).length = x.length := by simp [marks]; omega
theorem marks_set (x : List Int) (i : Nat) (c : Int) (h : i < x.length) : marks (x.set i c) (i + 1) (c + 1) = marks x i c := by
  unfold marks
  rw [List.length_set, show x.length - i = (x.length - (i + 1)) + 1 by omega, List.range_succ_eq_map]
  rw [List.take_succ_eq_append_getElem (by simpa using h)]
  simp only [List.getElem_set_self, List.map_cons, List.map_map, List.append_assoc, List.cons_append, List.nil_append]
  congr 1
  · rw [List.take_set_of_le (by omega)]
  · congr 1
    · simp
    · apply List.map_congr_left
      intro j _
      simp [Function.comp]
      omega
/-- n letters, each element of D a mask of them, symmetric and reflexive -/
def Alpha (n : Int) (D : List Int) : Prop :=
  (0 ≤ n ∧ n ≤ 8) ∧ (D.length : Int) = n ∧ (∀ x ∈ D, 0 ≤ x ∧ x < ((2 ^ D.length : Nat) : Int)) ∧ ∀ a, a < D.length → bitR D a a = true ∧ ∀ b, b < D.length → bitR D a b = bitR D b a
instance (n : Int) (D : List Int) : Decidable (Alpha n D) := by unfold Alpha; infer_instance
/-- a valid alphabet, as its number of letters and its dependence -/
theorem Alpha.form {n : Int} {D : List Int} (h : Alpha n D) : ∃ (m : Nat) (f : Nat → Nat → Bool), n = (m : Int) ∧ D = mat m f ∧ m ≤ 8 ∧ (∀ a b, f a b = f b a) ∧ ∀ a, a < m → f a a = true := by
  obtain ⟨h1, h2, h3, h4⟩ := h
  refine ⟨D.length, fun a b => decide (a < D.length ∧ b < D.length) && (bitR D a b), h2.symm, ?_, by omega, fun a b => ?_, fun a ha => ?_⟩
  · exact (eq_mat D h3).trans (mat_congr fun i k hi hk => by simp [hi, hk])
  · by_cases ha : a < D.length <;> by_cases hb : b < D.length <;> simp [ha, hb]
    exact (h4 a ha).2 b hb
  · simp [ha, (h4 a ha).1]
theorem pow24 {m : Nat} (h : m ≤ 24) : (2 : Nat) ^ m ≤ 2 ^ 24 := Nat.pow_le_pow_right (by decide) h
def Word (n : Int) (w : List Int) : Prop := w.length ≤ 24 ∧ ∀ x ∈ w, 0 ≤ x ∧ x ≤ n - 1
instance (n : Int) (w : List Int) : Decidable (Word n w) := by unfold Word; infer_instance
theorem Word.form {n : Nat} {w : List Int} (h : Word (n : Int) w) : ∃ u : List Nat, w = ints u ∧ u.length ≤ 24 ∧ ∀ x ∈ u, x < n := by
  refine ⟨w.map Int.toNat, ?_, by simpa using h.1, fun x hx => ?_⟩
  · unfold ints
    rw [List.map_map]
    conv => lhs; rw [← List.map_id w]
    apply List.map_congr_left
    intro x hx
    have := h.2 x hx
    simp only [Function.comp, id]
    omega
  · obtain ⟨y, hy, rfl⟩ := List.mem_map.mp hx
    have := h.2 y hy
    omega
theorem getD_lt {w : List Nat} {n i : Nat} (hw : ∀ x ∈ w, x < n) (hi : i < w.length) : w.getD i 0 < n := by
  rw [List.getD_eq_getElem?_getD, List.getElem?_eq_getElem hi]; exact hw _ (List.getElem_mem hi)
theorem rd_getD (w : List Nat) (i : Nat) : rd (ints w) (i : Int) = ((w.getD i 0 : Nat) : Int) := by
  by_cases h : i < w.length
  · rw [rd_ints w i h]; simp [List.getD_eq_getElem?_getD, h]
  · rw [rd_nat]; simp [ints, List.getD_eq_getElem?_getD, h]
theorem rd_mid (pre suf : List Nat) (b : Nat) : rd (ints (pre ++ b :: suf)) (pre.length : Int) = (b : Int) := by
  rw [rd_ints _ _ (by simp)]
  simp
theorem ints_eraseIdx (w : List Nat) (i : Nat) : (ints w).eraseIdx i = ints (w.eraseIdx i) := by
  rw [List.eraseIdx_eq_take_drop_succ, List.eraseIdx_eq_take_drop_succ]
  simp [ints]
theorem erase_idx {w : List Nat} {a : Nat} (h : a ∈ w) : w.eraseIdx (w.idxOf a) = w.erase a := (List.erase_eq_eraseIdx_of_idxOf rfl).symm
theorem idxOf_lt {w : List Nat} {a : Nat} (h : a ∈ w) : w.idxOf a < w.length := List.idxOf_lt_length_iff.2 h
instance (f : Nat → Nat → Bool) (u v : List Nat) : Decidable (TrEq f u v) := by unfold TrEq; infer_instance
/-- the index of a first letter, or -1 -/
def fIdx (f : Nat → Nat → Bool) (w : List Nat) (a : Nat) : Int := if isFirst f w a = true then ((w.idxOf a : Nat) : Int) else -1
theorem mem_mid {n : Nat} {pre suf : List Nat} {b : Nat} (h : ∀ x ∈ pre ++ b :: suf, x < n) : b < n := h b (by simp)
theorem idxOf_tail {a b : Nat} (l : List Nat) (h : ¬ b = a) : (b :: l).idxOf a = l.idxOf a + 1 := by
  rw [List.idxOf_cons, show (b == a) = false by simpa using h]
  rfl
theorem ctz_mk {n : Nat} (hn : n ≤ 24) {p : Nat → Bool} (h : ∃ a, a < n ∧ p a = true) : Lib.ctz 64 (mk n p) = leastF p n := by
  have hlt : mk n p < 2 ^ 64 := Nat.lt_of_lt_of_le (mk_lt n p) (Nat.pow_le_pow_right (by decide) (by omega))
  have h0 : mk n p ≠ 0 := by
    obtain ⟨a, ha, hp⟩ := h
    intro e
    have := testBit_mk n p a
    rw [e] at this
    simp [ha, hp] at this
  obtain ⟨h1, h2, h3, h4⟩ := lowest _ h0 hlt
  rw [testBit_mk] at h1
  simp only [Bool.and_eq_true, decide_eq_true_eq] at h1
  refine (leastF_unique h1.1 h1.2 fun i hi => ?_).symm
  have := h2 i hi
  rw [testBit_mk] at this
  simpa [show i < n by omega] using this
theorem mem_app {n : Nat} {u v : List Nat} (hu : ∀ x ∈ u, x < n) (hv : ∀ x ∈ v, x < n) : ∀ x ∈ u ++ v, x < n := fun x hx => (List.mem_append.1 hx).elim (hu x) (hv x)
theorem Word.of {n : Nat} {u : List Nat} (hl : u.length ≤ 24) (hu : ∀ x ∈ u, x < n) : Word (n : Int) (ints u) := by
  refine ⟨by simpa using hl, fun x hx => ?_⟩
  obtain ⟨y, hy, rfl⟩ := List.mem_map.1 hx
  have := hu y hy
  omega
end Go.Proofs.YtfnnnopbcdiibaaDoor.PAll
