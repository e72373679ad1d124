import Derived.Test.YthgapkbkhoeleaaDoorQHeight
import Derived.Test.YthgapkbkhoeleaaDoorQDraw
set_option linter.unusedVariables false
set_option linter.unusedSimpArgs false
/-! The greatest number of positions that are concurrent, and how many sets of such positions there are. -/
namespace Go.Proofs.YthgapkbkhoeleaaDoor.Q
open Go.RowKit Go.Proofs.YthgapkbkhoeleaaDoorW.PrintWords
theorem nodup_le {α : Type} [BEq α] [LawfulBEq α] : ∀ (l l' : List α), l.Nodup → (∀ x ∈ l, x ∈ l') → l.length ≤ l'.length := by
  intro l
  induction l with
  | nil => intro l' _ _; simp
  | cons x l ih =>
    intro l' hn h
    rw [List.nodup_cons] at hn
    have hx := h x (List.mem_cons_self ..)
    have := ih (l'.erase x) hn.2 (fun y hy => by
      have hne : y ≠ x := fun e => hn.1 (e ▸ hy)
      exact (List.mem_erase_of_ne hne).2 (h y (List.mem_cons_of_mem _ hy)))
    rw [List.length_erase_of_mem hx] at this
    have := List.length_pos_of_mem hx
    simp only [List.length_cons]
    omega
theorem pcP_add2 : ∀ (k C : Nat), C < 2 ^ k → pcP (C + 2 ^ k) = pcP C + 1 := by
  intro k
  induction k with
  | zero => intro C h; obtain rfl : C = 0 := by simpa using h
            rw [pcP_pos (by decide)]; simp [pcP_zero]
  | succ k ih =>
    intro C h
    rw [Nat.pow_succ] at h ⊢
    have e2 : (C + 2 ^ k * 2) / 2 = C / 2 + 2 ^ k := by omega
    have e1 : (C + 2 ^ k * 2) % 2 = C % 2 := by omega
    have hp := Nat.two_pow_pos k
    have eC : pcP C = C % 2 + pcP (C / 2) := by
      by_cases z : C = 0
      · subst z; simp [pcP_zero]
      · exact pcP_pos z
    rw [pcP_pos (by omega), e1, e2, ih (C / 2) (by omega), eC]
    omega
/-- the number of elements of a set -/
theorem pcP_mk (p : Nat → Bool) : ∀ n, pcP (mk n p) = ((List.range n).filter p).length := by
  intro n
  induction n with
  | zero => simp [mk, pcP_zero]
  | succ n ih =>
    rw [List.range_succ, List.filter_append, List.length_append, ← ih]
    have hlt := mk_lt n p
    have e : mk (n + 1) p = if p n = true then mk n p + 2 ^ n else mk n p := by
      refine bits_ext fun i => ?_
      by_cases h : p n = true
      · rw [if_pos h, testBit_mk]
        by_cases hi : i < n
        · rw [Nat.add_comm (mk n p) (2 ^ n), Nat.testBit_two_pow_add_gt hi, testBit_mk]
          simp [hi, show i < n + 1 by omega]
        · by_cases e : i = n
          · subst e
            rw [Nat.add_comm (mk i p) (2 ^ i), Nat.testBit_two_pow_add_eq, testBit_mk]
            simp [h]
          · rw [bit_of_lt (n := n + 1) (by rw [Nat.pow_succ]; omega) (by omega)]
            simp [show ¬ i < n + 1 by omega]
      · rw [if_neg h, testBit_mk, testBit_mk]
        by_cases e : i = n
        · subst e; simp [h]
        · by_cases hi : i < n
          · simp [hi, show i < n + 1 by omega]
          · simp [hi, show ¬ i < n + 1 by omega]
    rw [e]
    by_cases h : p n = true
    · rw [if_pos h, pcP_add2 n _ hlt]; simp [h]
    · rw [if_neg h]; simp [h]
/-- places that are near each other, two by two: no more than told -/
theorem wdN_most (g : Nat → Nat → Bool) : ∀ (d i : Nat) (P : Nat → Bool) (ps : List Nat), ps.Pairwise (fun a b => a < b ∧ g a b = true) → (∀ p ∈ ps, i ≤ p ∧ p < i + d ∧ P p = true) → ps.length ≤ wdN g d i P := by
  intro d
  induction d with
  | zero =>
    intro i P ps _ h
    have : ps = [] := List.eq_nil_iff_forall_not_mem.2 (fun p hp => by have := h p hp; omega)
    subst this
    exact Nat.le_refl _
  | succ d ih =>
    intro i P ps hp h
    simp only [wdN]
    cases ps with
    | nil => simp
    | cons x t =>
      rw [List.pairwise_cons] at hp
      have hx := h x (List.mem_cons_self ..)
      by_cases e : x = i
      · subst e
        rw [if_pos hx.2.2]
        have := ih (x + 1) (fun k => P k && g x k) t hp.2 (fun p hpt => by
          have h1 := hp.1 p hpt
          have h2 := h p (List.mem_cons_of_mem _ hpt)
          refine ⟨by omega, by omega, ?_⟩
          rw [Bool.and_eq_true]
          exact ⟨h2.2.2, h1.2⟩)
        simp only [List.length_cons]
        omega
      · have := ih (i + 1) P (x :: t) (List.pairwise_cons.2 hp) (fun p hpt => by
          have h2 := h p hpt
          refine ⟨?_, by omega, h2.2.2⟩
          rcases List.mem_cons.1 hpt with rfl | hpt
          · omega
          · have := (hp.1 p hpt).1; omega)
        split <;> omega
/-- .. and as many are there -/
theorem wdN_there (g : Nat → Nat → Bool) : ∀ (d i : Nat) (P : Nat → Bool), ∃ ps : List Nat, ps.Pairwise (fun a b => a < b ∧ g a b = true) ∧ (∀ p ∈ ps, i ≤ p ∧ p < i + d ∧ P p = true) ∧ ps.length = wdN g d i P := by
  intro d
  induction d with
  | zero => intro i P; exact ⟨[], List.Pairwise.nil, fun p hp => by simp at hp, rfl⟩
  | succ d ih =>
    intro i P
    obtain ⟨p1, a1, b1, c1⟩ := ih (i + 1) P
    obtain ⟨p2, a2, b2, c2⟩ := ih (i + 1) (fun k => P k && g i k)
    simp only [wdN]
    have one : (∀ p ∈ p1, i ≤ p ∧ p < i + (d + 1) ∧ P p = true) := fun p hp => by have := b1 p hp; exact ⟨by omega, by omega, this.2.2⟩
    by_cases h : P i = true
    · rw [if_pos h]
      by_cases c : wdN g d (i + 1) P ≤ 1 + wdN g d (i + 1) (fun k => P k && g i k)
      · refine ⟨i :: p2, List.pairwise_cons.2 ⟨fun p hp => ?_, a2⟩, fun p hp => ?_, by rw [List.length_cons, c2]; omega⟩
        · have := b2 p hp
          rw [Bool.and_eq_true] at this
          exact ⟨by omega, this.2.2.2⟩
        · rcases List.mem_cons.1 hp with rfl | hp
          · exact ⟨by omega, by omega, h⟩
          · have := b2 p hp
            rw [Bool.and_eq_true] at this
            exact ⟨by omega, by omega, this.2.2.1⟩
      · exact ⟨p1, a1, one, by omega⟩
    · rw [if_neg h]
      exact ⟨p1, a1, one, c1⟩
/-- the sets that have one place of each letter at most -/
def cand (w : List Nat) : Nat → List Nat
  | 0 => [0]
  | b + 1 => cand w b ++ ((List.range w.length).filter fun p => decide (w.getD p 0 = b)).flatMap fun p => (cand w b).map fun C => C ||| 2 ^ p
theorem cand_mem (w : List Nat) : ∀ (b C : Nat), (∀ p, C.testBit p = true → p < w.length ∧ w.getD p 0 < b) → (∀ p q, C.testBit p = true → C.testBit q = true → w.getD p 0 = w.getD q 0 → p = q) → C ∈ cand w b := by
  intro b
  induction b with
  | zero =>
    intro C h _
    have : C = 0 := bits_ext fun i => by
      rw [Nat.zero_testBit]
      cases z : C.testBit i with
      | false => rfl
      | true => have := (h i z).2; omega
    subst this
    exact List.mem_cons_self ..
  | succ b ih =>
    intro C h h2
    unfold cand
    rw [List.mem_append]
    by_cases e : ∃ p, C.testBit p = true ∧ w.getD p 0 = b
    · obtain ⟨p, p1, p2⟩ := e
      right
      have hp := h p p1
      refine List.mem_flatMap.2 ⟨p, List.mem_filter.2 ⟨List.mem_range.2 hp.1, by simpa using p2⟩, List.mem_map.2 ⟨mk w.length (fun i => C.testBit i && !decide (i = p)), ih _ (fun q hq => ?_) (fun q r hq hr hw => ?_), ?_⟩⟩
      · rw [testBit_mk] at hq
        simp only [Bool.and_eq_true, decide_eq_true_eq, Bool.not_eq_true', decide_eq_false_iff_not] at hq
        have := h q hq.2.1
        refine ⟨this.1, ?_⟩
        by_cases c : w.getD q 0 = b
        · exact absurd (h2 q p hq.2.1 p1 (c.trans p2.symm)) hq.2.2
        · omega
      · rw [testBit_mk] at hq hr
        simp only [Bool.and_eq_true] at hq hr
        exact h2 q r hq.2.1 hr.2.1 hw
      · refine bits_ext fun i => ?_
        rw [Nat.testBit_or, testBit_mk, testBit_one]
        by_cases c : p = i
        · subst c; simp [p1]
        · cases z : C.testBit i with
          | false => simp [c]
          | true => simp [c, (h i z).1, show ¬ i = p from fun x => c x.symm]
    · left
      refine ih C (fun p hp => ?_) h2
      have := h p hp
      refine ⟨this.1, ?_⟩
      by_cases c : w.getD p 0 = b
      · exact absurd ⟨p, hp, c⟩ e
      · omega
theorem sum_const_map {α : Type} (c : Nat) : ∀ l : List α, (l.map fun _ => c).sum = l.length * c := by
  intro l
  induction l with
  | nil => simp
  | cons x l ih => rw [List.map_cons, List.sum_cons, ih, List.length_cons, Nat.succ_mul, Nat.add_comm]
theorem cand_length (w : List Nat) (b : Nat) : (cand w (b + 1)).length = (cand w b).length * (((List.range w.length).filter fun p => decide (w.getD p 0 = b)).length + 1) := by
  rw [cand, List.length_append, List.length_flatMap]
  simp only [List.length_map]
  rw [sum_const_map, Nat.mul_add, Nat.mul_one, Nat.mul_comm, Nat.add_comm]
theorem count_below0 (u : Nat → Nat) (b : Nat) : ∀ l : List Nat, (l.filter fun p => decide (u p < b + 1)).length = (l.filter fun p => decide (u p < b)).length + (l.filter fun p => decide (u p = b)).length := by
  intro l
  induction l with
  | nil => rfl
  | cons x l ih =>
    rw [List.filter_cons, List.filter_cons, List.filter_cons]
    by_cases h1 : u x < b
    · rw [if_pos (decide_eq_true (show u x < b + 1 by omega)), if_pos (decide_eq_true h1), if_neg (by simp; omega), List.length_cons, List.length_cons, ih]
      omega
    · by_cases h2 : u x = b
      · rw [if_pos (decide_eq_true (show u x < b + 1 by omega)), if_neg (by simpa using h1), if_pos (decide_eq_true h2), List.length_cons, List.length_cons, ih]
        omega
      · rw [if_neg (by simp; omega), if_neg (by simpa using h1), if_neg (by simpa using h2), ih]
theorem count_below (w : List Nat) (b : Nat) (l : List Nat) : (l.filter fun p => decide (w.getD p 0 < b + 1)).length = (l.filter fun p => decide (w.getD p 0 < b)).length + (l.filter fun p => decide (w.getD p 0 = b)).length := count_below0 (fun p => w.getD p 0) b l
theorem pow_step : ∀ c : Nat, (c + 1) * (3 * 2 ^ c) ≤ 4 * 3 ^ c := by
  have key : ∀ d : Nat, (d + 2 + 1) * (3 * 2 ^ (d + 2)) ≤ 4 * 3 ^ (d + 2) := by
    intro d
    induction d with
    | zero => decide
    | succ d ih =>
      have e1 : (2 : Nat) ^ (d + 1 + 2) = 2 * 2 ^ (d + 2) := by rw [show d + 1 + 2 = d + 2 + 1 by omega, Nat.pow_succ]; omega
      have e2 : (3 : Nat) ^ (d + 1 + 2) = 3 * 3 ^ (d + 2) := by rw [show d + 1 + 2 = d + 2 + 1 by omega, Nat.pow_succ]; omega
      rw [e1, e2]
      generalize (2 : Nat) ^ (d + 2) = X at *
      generalize (3 : Nat) ^ (d + 2) = Y at *
      have h1 : (d + 2 + 1) * (3 * X) = 3 * (d * X) + 9 * X := by rw [Nat.add_mul, Nat.add_mul, ← Nat.mul_assoc, Nat.mul_comm d 3, Nat.mul_assoc]; omega
      have h2 : (d + 1 + 2 + 1) * (3 * (2 * X)) = 6 * (d * X) + 24 * X := by
        rw [show d + 1 + 2 + 1 = d + 4 by omega, Nat.add_mul, show d * (3 * (2 * X)) = 6 * (d * X) by rw [← Nat.mul_assoc, ← Nat.mul_assoc, Nat.mul_assoc (d * 3) 2 X, Nat.mul_comm d 3, Nat.mul_assoc 3 d, Nat.mul_left_comm d 2 X, ← Nat.mul_assoc 3 2]]; omega
      rw [h1] at ih
      rw [h2]
      omega
  intro c
  match c with
  | 0 => decide
  | 1 => decide
  | d + 2 => exact key d
theorem cand_bound (w : List Nat) : ∀ b, (cand w b).length * (3 ^ b * 2 ^ ((List.range w.length).filter fun p => decide (w.getD p 0 < b)).length) ≤ 4 ^ b * 3 ^ ((List.range w.length).filter fun p => decide (w.getD p 0 < b)).length := by
  intro b
  induction b with
  | zero =>
    rw [show ((List.range w.length).filter fun p => decide (w.getD p 0 < 0)) = [] from List.filter_eq_nil_iff.2 (fun p _ => by simp)]
    simp [cand]
  | succ b ih =>
    rw [cand_length, count_below]
    generalize ((List.range w.length).filter fun p => decide (w.getD p 0 = b)).length = c
    generalize ((List.range w.length).filter fun p => decide (w.getD p 0 < b)).length = s at *
    have hc := pow_step c
    have := Nat.mul_le_mul ih hc
    rw [Nat.pow_succ, Nat.pow_add, Nat.pow_succ, Nat.pow_add]
    generalize (cand w b).length = A at *
    generalize (3 : Nat) ^ b = B at *
    generalize (2 : Nat) ^ s = E at *
    generalize (2 : Nat) ^ c = F at *
    generalize (4 : Nat) ^ b = G at *
    generalize (3 : Nat) ^ s = H at *
    generalize (3 : Nat) ^ c = K at *
    calc A * (c + 1) * (B * 3 * (E * F)) = A * (B * E) * ((c + 1) * (3 * F)) := by ac_rfl
      _ ≤ G * H * (4 * K) := this
      _ = G * 4 * (H * K) := by ac_rfl
theorem cand_few (w : List Nat) (m : Nat) (hm : m ≤ 8) (hl : w.length ≤ 14) (hw : ∀ x ∈ w, x < m) : (cand w m).length < 4095 := by
  have h := cand_bound w m
  have e : (List.range w.length).filter (fun p => decide (w.getD p 0 < m)) = List.range w.length := List.filter_eq_self.2 (fun p hp => by
    have hp := List.mem_range.1 hp
    refine decide_eq_true (hw _ ?_)
    rw [List.getD_eq_getElem?_getD, List.getElem?_eq_getElem hp]
    exact List.getElem_mem _)
  rw [e, List.length_range] at h
  by_cases g : (cand w m).length < 4095
  · exact g
  · have h2 : 4095 * (3 ^ m * 2 ^ w.length) ≤ (cand w m).length * (3 ^ m * 2 ^ w.length) := Nat.mul_le_mul_right _ (by omega)
    have h3 : ∀ m, m < 9 → ∀ n, n < 15 → 4 ^ m * 3 ^ n < 4095 * (3 ^ m * 2 ^ n) := by decide +kernel
    have := h3 m (by omega) w.length (by omega)
    omega
end Go.Proofs.YthgapkbkhoeleaaDoor.Q
