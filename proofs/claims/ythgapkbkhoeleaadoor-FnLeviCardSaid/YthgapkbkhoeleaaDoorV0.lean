import Derived.Test.YthgapkbkhoeleaaDoorQBase
import Derived.Test.YthgapkbkhoeleaaDoorQFoata
import Derived.Test.YthgapkbkhoeleaaDoorQMap
import Derived.Test.YthgapkbkhoeleaaDoorQMask
import Derived.Test.YthgapkbkhoeleaaDoorQMeet
import Derived.Test.YthgapkbkhoeleaaDoorQOrder
import Derived.Test.YthgapkbkhoeleaaDoorQRev
import Derived.Test.YthgapkbkhoeleaaDoorQTab
import Derived.Test.YthgapkbkhoeleaaDoorQTrace
set_option linter.unusedVariables false
set_option linter.unusedSimpArgs false
namespace Go.Proofs.YthgapkbkhoeleaaDoor.PAll
open Go.RowKit Go.Proofs.YthgapkbkhoeleaaDoorW.PrintWords Go.Proofs.YthgapkbkhoeleaaDoorW.PrintMore Go.Proofs.YthgapkbkhoeleaaDoor.Q
/-- n letters, each element of D a mask of them, symmetric and reflexive -/
def Alpha (n : Int) (D : List Int) : Prop :=
  (0 ≤ n ∧ n ≤ 8) ∧ (D.length : Int) = n ∧ (∀ x ∈ D, 0 ≤ x ∧ x < ((2 ^ D.length : Nat) : Int)) ∧ ∀ a, a < D.length → bitR D a a = true ∧ ∀ b, b < D.length → bitR D a b = bitR D b a
instance (n : Int) (D : List Int) : Decidable (Alpha n D) := by unfold Alpha; infer_instance
/-- a valid alphabet, as its number of letters and its dependence -/
theorem Alpha.form {n : Int} {D : List Int} (h : Alpha n D) : ∃ (m : Nat) (f : Nat → Nat → Bool), n = (m : Int) ∧ D = mat m f ∧ m ≤ 8 ∧ (∀ a b, f a b = f b a) ∧ ∀ a, a < m → f a a = true := by
  obtain ⟨h1, h2, h3, h4⟩ := h
  refine ⟨D.length, fun a b => decide (a < D.length ∧ b < D.length) && (bitR D a b), h2.symm, ?_, by omega, fun a b => ?_, fun a ha => ?_⟩
  · exact (eq_mat D h3).trans (mat_congr fun i k hi hk => by simp [hi, hk])
  · by_cases ha : a < D.length <;> by_cases hb : b < D.length <;> simp [ha, hb]
    exact (h4 a ha).2 b hb
  · simp [ha, (h4 a ha).1]
theorem pow24 {m : Nat} (h : m ≤ 24) : (2 : Nat) ^ m ≤ 2 ^ 24 := Nat.pow_le_pow_right (by decide) h
def Word (n : Int) (w : List Int) : Prop := w.length ≤ 24 ∧ ∀ x ∈ w, 0 ≤ x ∧ x ≤ n - 1
instance (n : Int) (w : List Int) : Decidable (Word n w) := by unfold Word; infer_instance
theorem Word.form {n : Nat} {w : List Int} (h : Word (n : Int) w) : ∃ u : List Nat, w = ints u ∧ u.length ≤ 24 ∧ ∀ x ∈ u, x < n := by
  refine ⟨w.map Int.toNat, ?_, by simpa using h.1, fun x hx => ?_⟩
  · unfold ints
    rw [List.map_map]
    conv => lhs; rw [← List.map_id w]
    apply List.map_congr_left
    intro x hx
    have := h.2 x hx
    simp only [Function.comp, id]
    omega
  · obtain ⟨y, hy, rfl⟩ := List.mem_map.mp hx
    have := h.2 y hy
    omega
theorem rd_mid (pre suf : List Nat) (b : Nat) : rd (ints (pre ++ b :: suf)) (pre.length : Int) = (b : Int) := by
  rw [rd_ints _ _ (by simp)]
  simp
theorem ints_eraseIdx (w : List Nat) (i : Nat) : (ints w).eraseIdx i = ints (w.eraseIdx i) := by
  rw [List.eraseIdx_eq_take_drop_succ, List.eraseIdx_eq_take_drop_succ]
  simp [ints]
theorem erase_idx {w : List Nat} {a : Nat} (h : a ∈ w) : w.eraseIdx (w.idxOf a) = w.erase a := (List.erase_eq_eraseIdx_of_idxOf rfl).symm
theorem idxOf_lt {w : List Nat} {a : Nat} (h : a ∈ w) : w.idxOf a < w.length := List.idxOf_lt_length_iff.2 h
instance (f : Nat → Nat → Bool) (u v : List Nat) : Decidable (TrEq f u v) := by unfold TrEq; infer_instance
/-- the index of a first letter, or -1 -/
def fIdx (f : Nat → Nat → Bool) (w : List Nat) (a : Nat) : Int := if isFirst f w a = true then ((w.idxOf a : Nat) : Int) else -1
def cutR (f : Nat → Nat → Bool) (u v : List Nat) : List Int × Bool := match cutP f u v with
  | some r => (ints r, true)
  | none => ([], false)
theorem mem_mid {n : Nat} {pre suf : List Nat} {b : Nat} (h : ∀ x ∈ pre ++ b :: suf, x < n) : b < n := h b (by simp)
theorem idxOf_tail {a b : Nat} (l : List Nat) (h : ¬ b = a) : (b :: l).idxOf a = l.idxOf a + 1 := by
  rw [List.idxOf_cons, show (b == a) = false by simpa using h]
  rfl
theorem ctz_mk {n : Nat} (hn : n ≤ 24) {p : Nat → Bool} (h : ∃ a, a < n ∧ p a = true) : Lib.ctz 64 (mk n p) = leastF p n := by
  have hlt : mk n p < 2 ^ 64 := Nat.lt_of_lt_of_le (mk_lt n p) (Nat.pow_le_pow_right (by decide) (by omega))
  have h0 : mk n p ≠ 0 := by
    obtain ⟨a, ha, hp⟩ := h
    intro e
    have := testBit_mk n p a
    rw [e] at this
    simp [ha, hp] at this
  obtain ⟨h1, h2, h3, h4⟩ := lowest _ h0 hlt
  rw [testBit_mk] at h1
  simp only [Bool.and_eq_true, decide_eq_true_eq] at h1
  refine (leastF_unique h1.1 h1.2 fun i hi => ?_).symm
  have := h2 i hi
  rw [testBit_mk] at this
  simpa [show i < n by omega] using this
theorem mem_app {n : Nat} {u v : List Nat} (hu : ∀ x ∈ u, x < n) (hv : ∀ x ∈ v, x < n) : ∀ x ∈ u ++ v, x < n := fun x hx => (List.mem_append.1 hx).elim (hu x) (hv x)
theorem ChainAt.le {g : Nat → Nat → Bool} {n : Nat} {B : Nat → Nat} {i0 : Nat} (h : ∀ j, i0 ≤ j → j < n → ChainAt g n B j) : ∀ d i, i + d + 1 = n → i0 ≤ i → B i ≤ n - i := by
  intro d
  induction d using Nat.strongRecOn with
  | ind d ih =>
    intro i hi h0
    rcases (h i h0 (by omega)).2.2 with e | ⟨k, k1, k2, k3, k4⟩
    · omega
    · have := ih (n - k - 1) (by omega) k (by omega) (by omega)
      omega
theorem Word.of {n : Nat} {u : List Nat} (hl : u.length ≤ 24) (hu : ∀ x ∈ u, x < n) : Word (n : Int) (ints u) := by
  refine ⟨by simpa using hl, fun x hx => ?_⟩
  obtain ⟨y, hy, rfl⟩ := List.mem_map.1 hx
  have := hu y hy
  omega
theorem u8_bounds {x : Int} (h : (Lit.int .u8 x).wf = true) : 0 ≤ x ∧ x ≤ 255 := by
  simp only [Lit.wf, IntKind.min, IntKind.max, IntKind.signed, IntKind.bits, Bool.and_eq_true, decide_eq_true_eq] at h
  simp at h
  omega
structure Two (n : Int) (D l1 l2 : List Int) (m : Nat) (f : Nat → Nat → Bool) (u v : List Nat) : Prop where
  en : n = (m : Int)
  eD : D = mat m f
  e1 : l1 = ints u
  e2 : l2 = ints v
  hm : m ≤ 8
  hs : ∀ a b, f a b = f b a
  hr : ∀ a, a < m → f a a = true
  hul : u.length ≤ 24
  hu : ∀ x ∈ u, x < m
  hvl : v.length ≤ 24
  hv : ∀ x ∈ v, x < m
  hA : Alpha (m : Int) (mat m f)
end Go.Proofs.YthgapkbkhoeleaaDoor.PAll
