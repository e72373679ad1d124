import Derived.Test.YtkiacoilecdepaaDoorQBase
import Derived.Test.YtkiacoilecdepaaDoorQFoata
import Derived.Test.YtkiacoilecdepaaDoorQMask
import Derived.Test.YtkiacoilecdepaaDoorQMeet
import Derived.Test.YtkiacoilecdepaaDoorQOrder
import Derived.Test.YtkiacoilecdepaaDoorQRev
import Derived.Test.YtkiacoilecdepaaDoorQTab
import Derived.Test.YtkiacoilecdepaaDoorQTrace
set_option linter.unusedVariables false
set_option linter.unusedSimpArgs false
namespace Go.Proofs.YtkiacoilecdepaaDoor.PAll
open Go.RowKit Go.Proofs.YtkiacoilecdepaaDoorW.PrintWords Go.Proofs.YtkiacoilecdepaaDoorW.PrintMore Go.Proofs.YtkiacoilecdepaaDoor.Q
def Alpha (n : Int) (D : List Int) : Prop :=
 (0 ≤ n ∧ n ≤ 8) ∧ (D.length : Int) = n ∧ (∀ x ∈ D, 0 ≤ x ∧ x < ((2 ^ D.length : Nat) : Int)) ∧ ∀ a, a < D.length → bitR D a a = true ∧ ∀ b, b < D.length → bitR D a b = bitR D b a
instance (n : Int) (D : List Int) : Decidable (Alpha n D) := by unfold Alpha; infer_instance
theorem Alpha.form {n : Int} {D : List Int} (h : Alpha n D) : ∃ (m : Nat) (f : Nat → Nat → Bool), n = (m : Int) ∧ D = mat m f ∧ m ≤ 8 ∧ (∀ a b, f a b = f b a) ∧ ∀ a, a < m → f a a = true := by
 obtain ⟨h1, h2, h3, h4⟩ := h
 refine ⟨D.length, fun a b => decide (a < D.length ∧ b < D.length) && (bitR D a b), h2.symm, ?_, by omega, fun a b => ?_, fun a ha => ?_⟩
 ·exact (eq_mat D h3).trans (mat_congr fun i k hi hk => by simp [hi, hk])
 ·by_cases ha : a < D.length <;> by_cases hb : b < D.length <;> simp [ha, hb]
  exact (h4 a ha).2 b hb
 ·simp [ha, (h4 a ha).1]
theorem pow24 {m : Nat} (h : m ≤ 24) : (2 : Nat) ^ m ≤ 2 ^ 24 := Nat.pow_le_pow_right (by decide) h
def Word (n : Int) (w : List Int) : Prop := w.length ≤ 24 ∧ ∀ x ∈ w, 0 ≤ x ∧ x ≤ n - 1
instance (n : Int) (w : List Int) : Decidable (Word n w) := by unfold Word; infer_instance
theorem Word.form {n : Nat} {w : List Int} (h : Word (n : Int) w) : ∃ u : List Nat, w = ints u ∧ u.length ≤ 24 ∧ ∀ x ∈ u, x < n := by
 refine ⟨w.map Int.toNat, ?_, by simpa using h.1, fun x hx => ?_⟩
 ·unfold ints
  rw [List.map_map]
  conv => lhs; rw [← List.map_id w]
  apply List.map_congr_left
  intro x hx
  have := h.2 x hx
  simp only [Function.comp, id]
  omega
 ·obtain ⟨y, hy, rfl⟩ := List.mem_map.mp hx
  have := h.2 y hy
  omega
theorem getD_lt {w : List Nat} {n i : Nat} (hw : ∀ x ∈ w, x < n) (hi : i < w.length) : w.getD i 0 < n := by
 rw [List.getD_eq_getElem?_getD, List.getElem?_eq_getElem hi]; exact hw _ (List.getElem_mem hi)
theorem rd_getD (w : List Nat) (i : Nat) : rd (ints w) (i : Int) = ((w.getD i 0 : Nat) : Int) := by
 by_cases h : i < w.length
 ·rw [rd_ints w i h]; simp [List.getD_eq_getElem?_getD, h]
 ·rw [rd_nat]; simp [ints, List.getD_eq_getElem?_getD, h]
theorem rd_mid (pre suf : List Nat) (b : Nat) : rd (ints (pre ++ b :: suf)) (pre.length : Int) = (b : Int) := by
 rw [rd_ints _ _ (by simp)]
 simp
theorem ints_eraseIdx (w : List Nat) (i : Nat) : (ints w).eraseIdx i = ints (w.eraseIdx i) := by
 rw [List.eraseIdx_eq_take_drop_succ, List.eraseIdx_eq_take_drop_succ]
 simp [ints]
theorem erase_idx {w : List Nat} {a : Nat} (h : a ∈ w) : w.eraseIdx (w.idxOf a) = w.erase a := (List.erase_eq_eraseIdx_of_idxOf rfl).symm
theorem idxOf_lt {w : List Nat} {a : Nat} (h : a ∈ w) : w.idxOf a < w.length := List.idxOf_lt_length_iff.2 h
instance (f : Nat → Nat → Bool) (u v : List Nat) : Decidable (TrEq f u v) := by unfold TrEq; infer_instance
def fIdx (f : Nat → Nat → Bool) (w : List Nat) (a : Nat) : Int := if isFirst f w a = true then ((w.idxOf a : Nat) : Int) else -1
def cutR (f : Nat → Nat → Bool) (u v : List Nat) : List Int × Bool := match cutP f u v with
 | some r => (ints r, true)
 | none => ([], false)
theorem mem_mid {n : Nat} {pre suf : List Nat} {b : Nat} (h : ∀ x ∈ pre ++ b :: suf, x < n) : b < n := h b (by simp)
theorem idxOf_tail {a b : Nat} (l : List Nat) (h : ¬ b = a) : (b :: l).idxOf a = l.idxOf a + 1 := by
 rw [List.idxOf_cons, show (b == a) = false by simpa using h]
 rfl
theorem ctz_mk {n : Nat} (hn : n ≤ 24) {p : Nat → Bool} (h : ∃ a, a < n ∧ p a = true) : Lib.ctz 64 (mk n p) = leastF p n := by
 have hlt : mk n p < 2 ^ 64 := Nat.lt_of_lt_of_le (mk_lt n p) (Nat.pow_le_pow_right (by decide) (by omega))
 have h0 : mk n p ≠ 0 := by
  obtain ⟨a, ha, hp⟩ := h
  intro e
  have := testBit_mk n p a
  rw [e] at this
  simp [ha, hp] at this
 obtain ⟨h1, h2, h3, h4⟩ := lowest _ h0 hlt
 rw [testBit_mk] at h1
 simp only [Bool.and_eq_true, decide_eq_true_eq] at h1
 refine (leastF_unique h1.1 h1.2 fun i hi => ?_).symm
 have := h2 i hi
 rw [testBit_mk] at this
 simpa [show i < n by omega] using this
theorem mk_or_one (n : Nat) (p : Nat → Bool) (x : Nat) (hx : x < n) : mk n p ||| 2 ^ x = mk n fun a => p a || decide (a = x) := bits_ext fun i => by
 rw [Nat.testBit_or, testBit_mk, testBit_mk, testBit_one]
 by_cases e : x = i
 ·subst e; simp [hx]
 ·simp [e, show ¬ i = x from fun h => e h.symm]
theorem mk62 {n : Nat} (hn : n ≤ 24) (p : Nat → Bool) : mk n p < 2 ^ 62 := Nat.lt_of_lt_of_le (mk_lt n p) (Nat.pow_le_pow_right (by decide) (by omega))
theorem two62 {n : Nat} (hn : n ≤ 24) : (2 : Nat) ^ n < 2 ^ 62 := Nat.lt_of_le_of_lt (pow24 hn) (by decide)
theorem pow_lt62 {n : Nat} (hn : n ≤ 24) : (2 : Nat) ^ n ≤ 2 ^ 24 ∧ (2 : Nat) ^ 24 < 2 ^ 62 := ⟨pow24 hn, by decide⟩
theorem mem_app {n : Nat} {u v : List Nat} (hu : ∀ x ∈ u, x < n) (hv : ∀ x ∈ v, x < n) : ∀ x ∈ u ++ v, x < n := fun x hx => (List.mem_append.1 hx).elim (hu x) (hv x)
theorem join_TrEq {f : Nat → Nat → Bool} (hs : ∀ a b, f a b = f b a) {u p a : List Nat} (h : cutP f p u = some a) (b : List Nat) : TrEq f (p ++ a ++ b) (u ++ b) :=
 TrEq.append_right f hs (TrEq.symm f hs (cutP_spec f hs h)) b
theorem pos_step {α : Type} (g : Nat → α) (M i : Nat) : ((List.range (i + 1)).filter fun i => M.testBit i).map g = ((List.range i).filter fun i => M.testBit i).map g ++ if M.testBit i = true then [g i] else [] := by
 rw [List.range_succ, List.filter_append, List.map_append]
 congr 1
 by_cases h : M.testBit i = true <;> simp [h]
def lettersP (w : List Nat) (M : Nat) : List Nat := ((List.range w.length).filter fun i => M.testBit i).map fun i => w.getD i 0
theorem lettersP_length (w : List Nat) (M : Nat) : (lettersP w M).length ≤ w.length := by
 unfold lettersP
 rw [List.length_map]
 exact Nat.le_trans (List.length_filter_le _ _) (by simp)
theorem lettersP_lt {n : Nat} {w : List Nat} (hw : ∀ x ∈ w, x < n) (M : Nat) : ∀ x ∈ lettersP w M, x < n := by
 intro x hx
 unfold lettersP at hx
 obtain ⟨i, h1, rfl⟩ := List.mem_map.1 hx
 exact getD_lt hw (List.mem_range.1 (List.mem_filter.1 h1).1)
theorem ChainAt.le {g : Nat → Nat → Bool} {n : Nat} {B : Nat → Nat} {i0 : Nat} (h : ∀ j, i0 ≤ j → j < n → ChainAt g n B j) : ∀ d i, i + d + 1 = n → i0 ≤ i → B i ≤ n - i := by
 intro d
 induction d using Nat.strongRecOn with
 | ind d ih =>
  intro i hi h0
  rcases (h i h0 (by omega)).2.2 with e | ⟨k, k1, k2, k3, k4⟩
  ·omega
  ·have := ih (n - k - 1) (by omega) k (by omega) (by omega)
   omega
theorem wS (i : Nat) (h : i ≤ 1000000) : wrap64 ((i : Int) + 1) = ((i + 1 : Nat) : Int) := by rw [w64' (by omega)]; omega
theorem bit_zero (m i : Nat) (hm : m < 2 ^ 62) (h : i ≤ 64) : (Go.bits .and .i64 (shr .i64 (m : Int) (i : Int)) 1 = 0) ↔ m.testBit i = false := by
 rw [shr_nat m i h]
 have := b_and (m / 2 ^ i) 1 (Nat.lt_of_le_of_lt (Nat.div_le_self _ _) hm) (by decide)
 rw [show ((1 : Nat) : Int) = 1 from rfl] at this
 rw [this, Nat.and_one_is_mod, Nat.testBit_eq_decide_div_mod_eq, decide_eq_false_iff_not]
 omega
theorem swap_at {w : List Nat} {i : Nat} (h : i + 1 < w.length) : ∃ p x y q, w = p ++ x :: y :: q ∧ p.length = i := by
 refine ⟨w.take i, w[i], w[i + 1], w.drop (i + 2), ?_, by simp; omega⟩
 rw [← List.drop_eq_getElem_cons, ← List.drop_eq_getElem_cons, List.take_append_drop]
theorem Word.of {n : Nat} {u : List Nat} (hl : u.length ≤ 24) (hu : ∀ x ∈ u, x < n) : Word (n : Int) (ints u) := by
 refine ⟨by simpa using hl, fun x hx => ?_⟩
 obtain ⟨y, hy, rfl⟩ := List.mem_map.1 hx
 have := hu y hy
 omega
theorem u8_bounds {x : Int} (h : (Lit.int .u8 x).wf = true) : 0 ≤ x ∧ x ≤ 255 := by
 simp only [Lit.wf, IntKind.min, IntKind.max, IntKind.signed, IntKind.bits, Bool.and_eq_true, decide_eq_true_eq] at h
 simp at h
 omega
structure Two (n : Int) (D l1 l2 : List Int) (m : Nat) (f : Nat → Nat → Bool) (u v : List Nat) : Prop where
 en : n = (m : Int)
 eD : D = mat m f
 e1 : l1 = ints u
 e2 : l2 = ints v
 hm : m ≤ 8
 hs : ∀ a b, f a b = f b a
 hr : ∀ a, a < m → f a a = true
 hul : u.length ≤ 24
 hu : ∀ x ∈ u, x < m
 hvl : v.length ≤ 24
 hv : ∀ x ∈ v, x < m
 hA : Alpha (m : Int) (mat m f)
end Go.Proofs.YtkiacoilecdepaaDoor.PAll
